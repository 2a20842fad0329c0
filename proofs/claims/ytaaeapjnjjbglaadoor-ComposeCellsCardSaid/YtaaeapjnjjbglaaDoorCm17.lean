/- slices.Repeat of one number; math/bits.Mul. Least of the program, walked. -/
import Derived.Test.YtaaeapjnjjbglaaDoorCm16
import Derived.Deep.CutRange
import Derived.Laws.CopyOwn
import Derived.Shelf.Bits.Mul64

namespace Go.Proofs.YtaaeapjnjjbglaaDoor
open Go.RowKit Go.Shelf

set_option maxHeartbeats 1000000 in
theorem mul64_c (x y : Nat) (hx : x < 18446744073709551616) (hy : y < 18446744073709551616) (w : World) :
    Calls Tryd.prog 109 #[.int .u64 x, .int .u64 y] w fun e w' => e = .returned (.tuple #[.int .u64 ((x * y / 18446744073709551616 : Nat) : Int), .int .u64 ((x * y % 18446744073709551616 : Nat) : Int)]) ∧ w = w' := by
  obtain ⟨bd, bt, bw, hhi⟩ := Lib.mul64_hi x y hx hy
  have ba := Lib.half_mul_le (a := x / 4294967296) (b := y / 4294967296) (by omega) (by omega)
  have bb := Lib.half_mul_le (a := x / 4294967296) (b := y % 4294967296) (by omega) (by omega)
  have bc := Lib.half_mul_le (a := x % 4294967296) (b := y / 4294967296) (by omega) (by omega)
  have ba' : x / 4294967296 * (y / 4294967296) < 18446744073709551616 := by omega
  have bb' : x / 4294967296 * (y % 4294967296) < 18446744073709551616 := by omega
  have bc' : x % 4294967296 * (y / 4294967296) < 18446744073709551616 := by omega
  have bh1 : x / 4294967296 * (y / 4294967296) + (x / 4294967296 * (y % 4294967296) + x % 4294967296 * (y % 4294967296) / 4294967296) / 4294967296 < 18446744073709551616 := by omega
  have bh : x / 4294967296 * (y / 4294967296) + (x / 4294967296 * (y % 4294967296) + x % 4294967296 * (y % 4294967296) / 4294967296) / 4294967296 + ((x / 4294967296 * (y % 4294967296) + x % 4294967296 * (y % 4294967296) / 4294967296) % 4294967296 + x % 4294967296 * (y / 4294967296)) / 4294967296 < 18446744073709551616 := by omega
  go_enter Tryd.func109, Tryd.ntmps109
  go_wp2
  simp only [Mul64.maskN x hx, Mul64.maskN y hy, Mul64.divN, Mul64.mulN, Mul64.addN, Mul64.wrapN _ bd, Mul64.wrapN _ bb', Mul64.wrapN _ bt, Mul64.maskN _ bt, Mul64.wrapN _ bc', Mul64.wrapN _ bw, Mul64.wrapN _ ba', Mul64.wrapN _ bh1, Mul64.wrapN _ bh, Mul64.wrapM]
  rw [hhi]
  go_ret2
  exact ⟨rfl, rfl⟩
set_option maxHeartbeats 1000000 in
theorem mul_c (n : Nat) (hn : n < 4294967296) (w : World) :
    Calls Tryd.prog 78 #[.int .u64 1, .int .u64 n] w fun e w' => e = .returned (.tuple #[.int .u64 0, .int .u64 n]) ∧ w = w' := by
  have h := mul64_c 1 n (by omega) (by omega) w
  rw [show 1 * n / 18446744073709551616 = 0 by omega, show 1 * n % 18446744073709551616 = n by omega] at h
  go_enter Tryd.func78, Tryd.ntmps78
  go_wp2_with fail
  refine h.mono ?_
  rintro e w' ⟨rfl, rfl⟩
  go_wp2_with fail
  go_ret2
  exact ⟨rfl, rfl⟩
/-- n cells hold a, the rest is still zero. -/
def repN (N : Nat) (a : Int) (n : Nat) : List Int := List.replicate n a ++ List.replicate (N - n) 0
theorem repN_len {N n : Nat} {a : Int} (h : n ≤ N) : (repN N a n).length = N := by simp [repN]; omega
theorem repN_splice {N n m : Nat} {a : Int} (h : n + m ≤ N) : splice ((repN N a n).map iv) n (List.replicate m (iv a)) = (repN N a (n + m)).map iv := by
  apply List.ext_getElem?
  intro i
  unfold splice repN
  simp only [List.getElem?_append, List.getElem?_map, List.getElem?_replicate, List.length_take, List.length_map, List.length_append, List.length_replicate, List.getElem?_take, List.getElem?_drop]
  repeat' split
  all_goals (first | rfl | omega | (simp; omega) | (exfalso; omega) | skip)
theorem repN_get {N n j : Nat} {a : Int} (h : j < n) : ((repN N a n).map iv)[j]? = some (iv a) := by
  unfold repN
  rw [List.getElem?_map, List.getElem?_append_left (by simpa using h), List.getElem?_replicate, if_pos h]
  rfl
theorem intSize : (Tryd.prog.info? 3).map (·.size) = some 1 := by kernel_rfl
theorem one_iv {m : Nat} {a : Int} : ∀ v ∈ List.replicate m (iv a), v.oneCell' = true := fun v hv => by
  rw [List.eq_of_mem_replicate hv]
  rfl
structure Rp (W0 : World) (g N n m : Nat) (a : Int) (L : Nat → Bool) (us : Nat → Value) (w : World) : Prop where
  x : Ext W0 w
  g1 : L 7 = false → Blk w g 3 (intsA (repN N a n))
  g3 : L 9 = false → us 9 = .int .i64 n
  g2 : L 7 = true → Blk w g 3 (intsA (repN N a (n + m)))
  f0 : L 0 = true → us 0 = .int .i64 n
  f1 : L 1 = true → us 1 = .slice (some ⟨g, 0, none⟩) N N
  f2 : L 2 = true → us 2 = .int .i64 n
  f3 : L 3 = true → us 3 = .slice (some ⟨g, n, none⟩) (N - n) (N - n)
  f4 : L 4 = true → us 4 = .slice (some ⟨g, 0, none⟩) N N
  f5 : L 5 = true → us 5 = .int .i64 n
  f6 : L 6 = true → us 6 = .slice (some ⟨g, 0, none⟩) n N
  f7 : L 7 = true → us 7 = .int .i64 m
  f8 : L 8 = true → us 8 = .int .i64 ((n + m : Nat) : Int)
  f9 : L 9 = true → us 9 = .int .i64 ((n + m : Nat) : Int)
theorem at_copy {P : Program} {ops : Array Oper} {Q : Exit → Act → World → Prop} {dst : Option Tmp} {args : Array Operand} {ts : Array TypeId} {ty : TypeId} {pos : String} {aft : Array Edge} {g : Option (Nat × Bool)} {rest : List Oper} {a : Act} {w : World}
    (h : wpList P ops Q (⟨dst, .call { callee := .builtin .copy, args := args, argTypes := ts }, ty, pos, aft, g⟩ :: rest) a w) : wpList P ops Q (⟨dst, .call { callee := .builtin .copy, args := args, argTypes := ts }, ty, pos, aft, g⟩ :: rest) a w := h
theorem rep_one {W : World} {B n1 : Nat} {a : Int} (h : W.cell? ⟨B, 0, none⟩ = some (.int .i64 a)) (hn : n1 ≤ 1) : ∀ (j : Nat) (v : Value), (List.replicate n1 (iv a))[j]? = some v → W.cell? ((⟨B, 0, none⟩ : Addr).add j) = some v := fun j v hj => by
  rw [List.getElem?_replicate] at hj
  split at hj
  · cases hj
    obtain rfl : j = 0 := by omega
    exact h
  · cases hj
def RepPost (a : Int) (N : Nat) (w : World) (e : Ending) (w' : World) : Prop := ∃ g, e = .returned (.slice (some ⟨g, 0, none⟩) N N) ∧ Blk w' g 3 (intsA (List.replicate N a)) ∧ w.heap.size ≤ g ∧ Ext w w'
set_option maxRecDepth 100000 in
set_option maxHeartbeats 2000000 in
theorem repeat_c (B : Nat) (a : Int) (N : Nat) (hN : N ≤ 1000) (w : World) (hx : w.cell? ⟨B, 0, none⟩ = some (.int .i64 a)) :
    Calls Tryd.prog 45 #[.slice (some ⟨B, 0, none⟩) 1 1, .int .i64 N] w (RepPost a N w) := by
  have hmk := make_ints N (by omega) w
  have hM := mul_c N (by omega) w
  have hx1 : (w.alloc (.cells (intsA (List.replicate N 0)) 3)).cell? ⟨B, 0, none⟩ = some (.int .i64 a) := ((Ext.refl w).alloc _).cell hx
  have HX := Lib.hid hx1
  have hblk := Blk.new w (intsA (List.replicate N 0)) 3
  have HB := Lib.hid hblk
  have HE := Lib.hid ((Ext.refl w).alloc (.cells (intsA (List.replicate N 0)) 3))
  clear hx1 hblk hx
  go_enter Tryd.func45, Tryd.ntmps45
  go_wp2_with fail
  refine hM.mono ?_
  rintro e w1 ⟨rfl, rfl⟩
  obtain ⟨W, hW⟩ : ∃ W, w.alloc (.cells (intsA (List.replicate N 0)) 3) = W := ⟨_, rfl⟩
  rw [hW] at HX HB HE
  obtain ⟨G, hG⟩ : ∃ G, w.heap.size = G := ⟨_, rfl⟩
  have HG := Lib.hid hG
  rw [hG] at HB hmk
  have HG0 := Lib.hid (show W.heap[G]? = some (.cells ((List.replicate N 0).map iv).toArray 3 (0, 0)) from HB.out)
  have hm1 : Nat.min 1 N ≤ 1 ∧ Nat.min 1 N ≤ N ∧ (0 < N → Nat.min 1 N = 1) := ⟨Nat.min_le_left _ _, Nat.min_le_right _ _, fun h => Nat.min_eq_left h⟩
  obtain ⟨n1, hn1⟩ : ∃ n1, Nat.min 1 N = n1 := ⟨_, rfl⟩
  rw [hn1] at hm1
  have Hm1 := Lib.hid hm1
  have Hn1 := Lib.hid hn1
  clear hm1 hn1
  go_wp2_with ((with_reducible refine at_copy ?_); refine wpList_copy_splice rfl (.tmp 31) (.tmp 32) 97 97 rfl 3 Tryd.underlying97 intSize (some ⟨G, 0, none⟩) (some ⟨B, 0, none⟩) N N 1 1 rfl rfl G 0 ((List.replicate N 0).map iv) 3 HG0.out (List.replicate n1 (iv a)) (by rw [Hn1.out]; simp) (fun _ => ⟨rfl, ⟨B, 0, none⟩, rfl, rep_one HX.out Hm1.out.1⟩) (by have := Hm1.out; simp; omega) one_iv w.heap.size w HE.out (by have := HG.out; omega) ?_; intro W2 hW2 hE2)
  replace hW2 := hW2.out
  have hB2 : Blk W2 G 3 (intsA (repN N a n1)) := by
    have h := repN_splice (N := N) (n := 0) (m := n1) (a := a) (by have := Hm1.out; omega)
    rw [Nat.zero_add] at h
    have e : (repN N a 0).map iv = (List.replicate N 0).map iv := by simp [repN]
    rw [e] at h
    rw [h] at hW2
    exact hW2
  have HB2 := Lib.hid hB2
  have HE2 := Lib.hid (show Ext w W2 from hE2)
  have HN := Lib.hid hN
  clear hW2 hB2 hE2 hW hmk
  have hn1 : n1 ≤ N := Hm1.out.2.1
  go_loopw [8] (fun v wr => ∃ n : Nat, v = .int .i64 n ∧ n ≤ N ∧ (N = 0 ∨ 1 ≤ n) ∧ Blk wr G 3 (intsA (repN N a n)) ∧ Ext w wr) (fun v _ => N - (intOf v).toNat)
  case atStart => exact ⟨n1, rfl, hn1, by have := Hm1.out; omega, HB2.out, HE2.out⟩
  case round =>
    obtain ⟨n, rfl, hn, hpos, HBn, HEn⟩ := hrel
    by_cases hlt : n < N
    · have hpos1 : 1 ≤ n := by omega
      have hd : decide (n < N) = true := decide_eq_true hlt
      have hlti : (n : Int) < N := by omega
      obtain ⟨m, hm⟩ : ∃ m, Nat.min n (N - n) = m := ⟨_, rfl⟩
      have h1 : m ≤ n := by rw [← hm]; exact Nat.min_le_left _ _
      have h2 : m ≤ N - n := by rw [← hm]; exact Nat.min_le_right _ _
      have h3 : 1 ≤ m := by rw [← hm]; exact Nat.le_min.2 ⟨by omega, by omega⟩
      have hm1 : 1 ≤ m ∧ n + m ≤ N ∧ m ≤ n := by omega
      have hne : ¬ N = n := by omega
      have Hm := Lib.hid hm
      have HBn := Lib.hid HBn
      have HEn := Lib.hid HEn
      have hsum : IntKind.i64.wrap ((n : Int) + (m : Int)) = ((n + m : Nat) : Int) := IntWalk.i64_in _ (by omega)
      clear hm
      go_upto_region 9 with (fail)
      refine wp_region_by0 (Rp w G N n m a) (by kernel_rfl) (by kernel_rfl) (by kernel_rfl) ⟨HEn.out.drew, (fun _ => HBn.out), (fun _ => rfl), (nofun), (nofun), (nofun), (nofun), (nofun), (nofun), (nofun), (nofun), (nofun), (nofun), (nofun)⟩ ⟨?_, ?_, ?_, ?_, ?_, ?_, ?_, ?_, ?_, ?_, trivial⟩ ?_
      · intro L us wx K a ha hp hd hun hI hK
        have HX := hI.x
        have u9 := hI.g3 (Bool.eq_false_iff.2 fun hl => absurd (hd 9 0 hl (by kernel_rfl)) (by rw [hun]; decide))
        clear hp HX
        replace hd := Lib.hid hd
        simp only [putAll, Act.put, List.setIfInBounds_toArray, List.set_cons_succ, List.set_cons_zero, Nat.reduceAdd, u9] at ha
        subst ha
        simp only [Act.put, List.setIfInBounds_toArray, List.set_cons_succ, List.set_cons_zero] at hK
        go_simp
        refine hK _ _ ?_
        first
        | (refine ⟨hI.x, hI.g1, hI.g3, hI.g2, ?_, hI.f1, hI.f2, hI.f3, hI.f4, hI.f5, hI.f6, hI.f7, hI.f8, hI.f9⟩ <;> (first | exact fun _ => rfl | skip))
        | (refine ⟨?_, ?_, ?_, ?_, ?_, ?_, ?_, ?_, ?_, ?_, ?_, ?_, ?_, ?_⟩ <;> (first | exact hI.x | exact hI.g1 | exact hI.g3 | exact hI.g2 | exact hI.f0 | exact hI.f1 | exact hI.f2 | exact hI.f3 | exact hI.f4 | exact hI.f5 | exact hI.f6 | exact hI.f7 | exact hI.f8 | exact hI.f9 | exact fun _ => rfl | skip))
      · intro L us wx K a ha hp hd hun hI hK
        have HX := hI.x
        clear hp HX
        replace hd := Lib.hid hd
        simp only [putAll, Act.put, List.setIfInBounds_toArray, List.set_cons_succ, List.set_cons_zero, Nat.reduceAdd] at ha
        subst ha
        simp only [Act.put, List.setIfInBounds_toArray, List.set_cons_succ, List.set_cons_zero] at hK
        go_simp
        refine hK _ _ ?_
        first
        | (refine ⟨hI.x, hI.g1, hI.g3, hI.g2, hI.f0, ?_, hI.f2, hI.f3, hI.f4, hI.f5, hI.f6, hI.f7, hI.f8, hI.f9⟩ <;> (first | exact fun _ => rfl | skip))
        | (refine ⟨?_, ?_, ?_, ?_, ?_, ?_, ?_, ?_, ?_, ?_, ?_, ?_, ?_, ?_⟩ <;> (first | exact hI.x | exact hI.g1 | exact hI.g3 | exact hI.g2 | exact hI.f0 | exact hI.f1 | exact hI.f2 | exact hI.f3 | exact hI.f4 | exact hI.f5 | exact hI.f6 | exact hI.f7 | exact hI.f8 | exact hI.f9 | exact fun _ => rfl | skip))
      · intro L us wx K a ha hp hd hun hI hK
        have HX := hI.x
        have u9 := hI.g3 (Bool.eq_false_iff.2 fun hl => absurd (hd 9 2 hl (by kernel_rfl)) (by rw [hun]; decide))
        clear hp HX
        replace hd := Lib.hid hd
        simp only [putAll, Act.put, List.setIfInBounds_toArray, List.set_cons_succ, List.set_cons_zero, Nat.reduceAdd, u9] at ha
        subst ha
        simp only [Act.put, List.setIfInBounds_toArray, List.set_cons_succ, List.set_cons_zero] at hK
        go_simp
        refine hK _ _ ?_
        first
        | (refine ⟨hI.x, hI.g1, hI.g3, hI.g2, hI.f0, hI.f1, ?_, hI.f3, hI.f4, hI.f5, hI.f6, hI.f7, hI.f8, hI.f9⟩ <;> (first | exact fun _ => rfl | skip))
        | (refine ⟨?_, ?_, ?_, ?_, ?_, ?_, ?_, ?_, ?_, ?_, ?_, ?_, ?_, ?_⟩ <;> (first | exact hI.x | exact hI.g1 | exact hI.g3 | exact hI.g2 | exact hI.f0 | exact hI.f1 | exact hI.f2 | exact hI.f3 | exact hI.f4 | exact hI.f5 | exact hI.f6 | exact hI.f7 | exact hI.f8 | exact hI.f9 | exact fun _ => rfl | skip))
      · intro L us wx K a ha hp hd hun hI hK
        have HX := hI.x
        have u1 := hI.f1 (hp 1 (by kernel_rfl))
        have u2 := hI.f2 (hp 2 (by kernel_rfl))
        clear hp HX
        replace hd := Lib.hid hd
        simp only [putAll, Act.put, List.setIfInBounds_toArray, List.set_cons_succ, List.set_cons_zero, Nat.reduceAdd, u1, u2] at ha
        subst ha
        simp only [Act.put, List.setIfInBounds_toArray, List.set_cons_succ, List.set_cons_zero] at hK
        go_simp
        refine hK _ _ ?_
        first
        | (refine ⟨hI.x, hI.g1, hI.g3, hI.g2, hI.f0, hI.f1, hI.f2, ?_, hI.f4, hI.f5, hI.f6, hI.f7, hI.f8, hI.f9⟩ <;> (first | exact fun _ => rfl | skip))
        | (refine ⟨?_, ?_, ?_, ?_, ?_, ?_, ?_, ?_, ?_, ?_, ?_, ?_, ?_, ?_⟩ <;> (first | exact hI.x | exact hI.g1 | exact hI.g3 | exact hI.g2 | exact hI.f0 | exact hI.f1 | exact hI.f2 | exact hI.f3 | exact hI.f4 | exact hI.f5 | exact hI.f6 | exact hI.f7 | exact hI.f8 | exact hI.f9 | exact fun _ => rfl | skip))
      · intro L us wx K a ha hp hd hun hI hK
        have HX := hI.x
        clear hp HX
        replace hd := Lib.hid hd
        simp only [putAll, Act.put, List.setIfInBounds_toArray, List.set_cons_succ, List.set_cons_zero, Nat.reduceAdd] at ha
        subst ha
        simp only [Act.put, List.setIfInBounds_toArray, List.set_cons_succ, List.set_cons_zero] at hK
        go_simp
        refine hK _ _ ?_
        first
        | (refine ⟨hI.x, hI.g1, hI.g3, hI.g2, hI.f0, hI.f1, hI.f2, hI.f3, ?_, hI.f5, hI.f6, hI.f7, hI.f8, hI.f9⟩ <;> (first | exact fun _ => rfl | skip))
        | (refine ⟨?_, ?_, ?_, ?_, ?_, ?_, ?_, ?_, ?_, ?_, ?_, ?_, ?_, ?_⟩ <;> (first | exact hI.x | exact hI.g1 | exact hI.g3 | exact hI.g2 | exact hI.f0 | exact hI.f1 | exact hI.f2 | exact hI.f3 | exact hI.f4 | exact hI.f5 | exact hI.f6 | exact hI.f7 | exact hI.f8 | exact hI.f9 | exact fun _ => rfl | skip))
      · intro L us wx K a ha hp hd hun hI hK
        have HX := hI.x
        have u9 := hI.g3 (Bool.eq_false_iff.2 fun hl => absurd (hd 9 5 hl (by kernel_rfl)) (by rw [hun]; decide))
        clear hp HX
        replace hd := Lib.hid hd
        simp only [putAll, Act.put, List.setIfInBounds_toArray, List.set_cons_succ, List.set_cons_zero, Nat.reduceAdd, u9] at ha
        subst ha
        simp only [Act.put, List.setIfInBounds_toArray, List.set_cons_succ, List.set_cons_zero] at hK
        go_simp
        refine hK _ _ ?_
        first
        | (refine ⟨hI.x, hI.g1, hI.g3, hI.g2, hI.f0, hI.f1, hI.f2, hI.f3, hI.f4, ?_, hI.f6, hI.f7, hI.f8, hI.f9⟩ <;> (first | exact fun _ => rfl | skip))
        | (refine ⟨?_, ?_, ?_, ?_, ?_, ?_, ?_, ?_, ?_, ?_, ?_, ?_, ?_, ?_⟩ <;> (first | exact hI.x | exact hI.g1 | exact hI.g3 | exact hI.g2 | exact hI.f0 | exact hI.f1 | exact hI.f2 | exact hI.f3 | exact hI.f4 | exact hI.f5 | exact hI.f6 | exact hI.f7 | exact hI.f8 | exact hI.f9 | exact fun _ => rfl | skip))
      · intro L us wx K a ha hp hd hun hI hK
        have HX := hI.x
        have u4 := hI.f4 (hp 4 (by kernel_rfl))
        have u5 := hI.f5 (hp 5 (by kernel_rfl))
        clear hp HX
        replace hd := Lib.hid hd
        simp only [putAll, Act.put, List.setIfInBounds_toArray, List.set_cons_succ, List.set_cons_zero, Nat.reduceAdd, u4, u5] at ha
        subst ha
        simp only [Act.put, List.setIfInBounds_toArray, List.set_cons_succ, List.set_cons_zero] at hK
        go_simp
        refine hK _ _ ?_
        first
        | (refine ⟨hI.x, hI.g1, hI.g3, hI.g2, hI.f0, hI.f1, hI.f2, hI.f3, hI.f4, hI.f5, ?_, hI.f7, hI.f8, hI.f9⟩ <;> (first | exact fun _ => rfl | skip))
        | (refine ⟨?_, ?_, ?_, ?_, ?_, ?_, ?_, ?_, ?_, ?_, ?_, ?_, ?_, ?_⟩ <;> (first | exact hI.x | exact hI.g1 | exact hI.g3 | exact hI.g2 | exact hI.f0 | exact hI.f1 | exact hI.f2 | exact hI.f3 | exact hI.f4 | exact hI.f5 | exact hI.f6 | exact hI.f7 | exact hI.f8 | exact hI.f9 | exact fun _ => rfl | skip))
      · intro L us wx K a' ha hp hd hun hI hK
        have u3 := hI.f3 (hp 3 (by kernel_rfl))
        have u6 := hI.f6 (hp 6 (by kernel_rfl))
        have hb := hI.g1 hun
        replace hd := Lib.hid hd
        simp only [putAll, Act.put, List.setIfInBounds_toArray, List.set_cons_succ, List.set_cons_zero, Nat.reduceAdd, u3, u6] at ha
        subst ha
        simp only [Act.put, List.setIfInBounds_toArray, List.set_cons_succ, List.set_cons_zero] at hK
        refine step_copy_splice rfl (.tmp 41) (.tmp 44) 97 97 rfl 3 Tryd.underlying97 intSize (some ⟨G, n, none⟩) (some ⟨G, 0, none⟩) (N - n) (N - n) n N rfl rfl G n ((repN N a n).map iv) 3 hb (List.replicate m (iv a)) (by rw [List.length_replicate, ← Hm.out]) (fun _ => ⟨rfl, ⟨G, 0, none⟩, rfl, fun j v hj => ?_⟩) (by rw [List.length_map, repN_len hn, List.length_replicate]; omega) one_iv w.heap.size w hI.x (by have := HG.out; omega) ?_
        · rw [List.getElem?_replicate] at hj
          split at hj
          · cases hj
            have hc := hb.cell j
            rw [intsA_get] at hc
            rw [add_zero_addr, hc, ← List.getElem?_map]
            exact repN_get (by omega)
          · cases hj
        · intro w2 hw2 hE2
          have hw2 := hw2.out
          rw [repN_splice hm1.2.1] at hw2
          rw [List.length_replicate]
          exact hK _ _ ⟨hE2, (nofun), hI.g3, (fun _ => hw2), hI.f0, hI.f1, hI.f2, hI.f3, hI.f4, hI.f5, hI.f6, (fun _ => rfl), hI.f8, hI.f9⟩
      · intro L us wx K a ha hp hd hun hI hK
        have HX := hI.x
        have u0 := hI.f0 (hp 0 (by kernel_rfl))
        have u7 := hI.f7 (hp 7 (by kernel_rfl))
        clear hp HX
        replace hd := Lib.hid hd
        simp only [putAll, Act.put, List.setIfInBounds_toArray, List.set_cons_succ, List.set_cons_zero, Nat.reduceAdd, u0, u7] at ha
        subst ha
        simp only [Act.put, List.setIfInBounds_toArray, List.set_cons_succ, List.set_cons_zero] at hK
        go_simp
        refine hK _ _ ?_
        first
        | (refine ⟨hI.x, hI.g1, hI.g3, hI.g2, hI.f0, hI.f1, hI.f2, hI.f3, hI.f4, hI.f5, hI.f6, ?_, hI.f8, hI.f9⟩ <;> (first | exact fun _ => rfl | skip))
        | (refine ⟨?_, ?_, ?_, ?_, ?_, ?_, ?_, ?_, ?_, ?_, ?_, ?_, ?_, ?_⟩ <;> (first | exact hI.x | exact hI.g1 | exact hI.g3 | exact hI.g2 | exact hI.f0 | exact hI.f1 | exact hI.f2 | exact hI.f3 | exact hI.f4 | exact hI.f5 | exact hI.f6 | exact hI.f7 | exact hI.f8 | exact hI.f9 | exact fun _ => rfl | skip))
      · intro L us wx K a ha hp hd hun hI hK
        have HX := hI.x
        have u8 := hI.f8 (hp 8 (by kernel_rfl))
        clear hp HX
        replace hd := Lib.hid hd
        simp only [putAll, Act.put, List.setIfInBounds_toArray, List.set_cons_succ, List.set_cons_zero, Nat.reduceAdd, u8] at ha
        subst ha
        simp only [Act.put, List.setIfInBounds_toArray, List.set_cons_succ, List.set_cons_zero] at hK
        go_simp
        refine hK _ _ ?_
        first
        | (refine ⟨hI.x, hI.g1, hI.g3, hI.g2, hI.f0, hI.f1, hI.f2, hI.f3, hI.f4, hI.f5, hI.f6, hI.f7, ?_, hI.f9⟩ <;> (first | exact fun _ => rfl | skip))
        | (refine ⟨?_, ?_, ?_, ?_, ?_, ?_, ?_, ?_, ?_, ?_, ?_, ?_, ?_, ?_⟩ <;> (first | exact hI.x | exact hI.g1 | exact hI.g3 | exact hI.g2 | exact hI.f0 | exact hI.f1 | exact hI.f2 | exact hI.f3 | exact hI.f4 | exact hI.f5 | exact hI.f6 | exact hI.f7 | exact hI.f8 | exact hI.f9 | exact fun _ => rfl | skip))
        exact fun h => nomatch (show true = false from h)
      intro L us W9 hall hI
      have hb := Lib.hid (hI.g2 (hall 7 (by simp)))
      have hx := Lib.hid hI.x
      have u9 := hI.f9 (hall 9 (by simp))
      simp only [putAll, Act.put, List.setIfInBounds_toArray, List.set_cons_succ, List.set_cons_zero, Nat.reduceAdd, u9]
      clear hI hall u9
      go_wp2_with fail
      go_roundw
      case rel => exact ⟨n + m, rfl, hm1.2.1, Or.inr (by omega), hb.out, hx.out⟩
      case measure => simp only [intOf]; omega
    · obtain rfl : n = N := by omega
      have hd : decide (n < n) = false := by simp
      have HBn := Lib.hid HBn
      have HEn := Lib.hid HEn
      go_wp2_with fail
      go_ret
      refine ⟨G, rfl, ?_, by have := HG.out; omega, HEn.out⟩
      have := HBn.out
      rw [show repN n a n = List.replicate n a by simp [repN]] at this
      exact this
end Go.Proofs.YtaaeapjnjjbglaaDoor

namespace Go.Proofs.YtaaeapjnjjbglaaDoor
open Go.RowKit Go.Shelf
attribute [local go_sem] Oper.semAt_some

/-- What is left behind the areas with some numbers. -/
def leftP (F : Int) (zs : List Int) (pre : List Nat) : Int := F - (pre.map fun i => zs.getD i 0).sum
theorem leftP_nil (F : Int) (zs : List Int) : leftP F zs [] = F := by simp [leftP]
theorem leftP_snoc (F : Int) (zs : List Int) (pre : List Nat) (x : Nat) : leftP F zs (pre ++ [x]) = leftP F zs pre - zs.getD x 0 := by
  unfold leftP
  rw [List.map_append, List.sum_append]
  simp
  omega
theorem idxs_zs (zs : List Int) (k : Nat) : ((idxs zs.length).take k).map (fun i => zs.getD i 0) = zs.reverse.take k := by
  rw [List.map_take]
  congr 1
  apply List.ext_getElem?
  intro i
  rw [List.getElem?_map]
  rcases Nat.lt_or_ge i zs.length with h | h
  · rw [idxs_get h, List.getElem?_reverse h, Option.map_some, List.getD_eq_getElem?_getD, List.getElem?_eq_getElem (by omega)]
    rfl
  · rw [List.getElem?_eq_none (by rw [idxs_len]; exact h), List.getElem?_eq_none (by simpa using h)]
    rfl
theorem leftP_idxs (F : Int) (zs : List Int) (k : Nat) : leftP F zs ((idxs zs.length).take k) = leftK F zs.reverse k := by
  unfold leftP leftK
  rw [idxs_zs]
theorem prefix_take {α : Type} {q r : List α} (h : q <+: r) : q = r.take q.length := by
  obtain ⟨t, rfl⟩ := h
  simp
theorem asc_left {l : List Plate} (F : Int) {q : List Nat} (h : q <+: idxs (ascL l).length) : leftP F (ascL l) q = leftK F (descL l) q.length := by
  rw [← asc_rev, ← leftP_idxs, ← prefix_take h]
theorem least_stop {s : Shape} {l : List Plate} {q : List Nat} {x : Nat} (hz : (ascL l).length ≤ 100000) (h : q ++ [x] <+: idxs (ascL l).length) (hq : ∀ j, j < q.length → 0 < leftP (fullN s.cells) (ascL l) (q.take (j + 1))) (h0 : leftP (fullN s.cells) (ascL l) (q ++ [x]) ≤ 0) :
    leastO s l = some (q.length + 1) ∧ wrap64 (((ascL l).length : Int) - (x : Int)) = ((q.length + 1 : Nat) : Int) := by
  have hql : q.length + 1 ≤ (ascL l).length := by
    have := h.length_le
    rw [List.length_append, idxs_len] at this
    simpa using this
  have hlt : q.length < (descL l).length := by rw [← asc_rev, List.length_reverse]; omega
  have hx : x = (ascL l).length - 1 - q.length := by
    have e := prefix_take h
    have e1 : (q ++ [x])[q.length]? = some x := by simp
    rw [e, List.length_append, List.length_singleton, List.getElem?_take_of_lt (by omega), idxs_get (by omega)] at e1
    exact (Option.some.inj e1).symm
  constructor
  · have := takeN_go (ds := descL l) (F := fullN s.cells) (n := 0) (k := q.length) (fun j hj => ?_) hlt (by rw [asc_left _ h, List.length_append] at h0; exact h0)
    · rw [Nat.zero_add] at this
      exact this
    · have h1 := hq j hj
      have hp : q.take (j + 1) <+: idxs (ascL l).length := (List.take_prefix _ _).trans ((List.prefix_append q [x]).trans h)
      rw [asc_left _ hp, List.length_take, Nat.min_eq_left (by omega)] at h1
      exact h1
  · subst hx
    unfold wrap64
    omega
theorem least_done {s : Shape} {l : List Plate} (hq : ∀ j, j < (idxs (ascL l).length).length → 0 < leftP (fullN s.cells) (ascL l) ((idxs (ascL l).length).take (j + 1))) : leastO s l = none := by
  refine takeN_not fun j hj => ?_
  have hlt : j < (ascL l).length := by rw [← asc_rev, List.length_reverse] at hj; exact hj
  have h1 := hq j (by rw [idxs_len]; exact hlt)
  rw [asc_left _ (List.take_prefix _ _), List.length_take, idxs_len, Nat.min_eq_left (by omega)] at h1
  exact h1
theorem asc_small {l : List Plate} (okl : platesB l = true) (x : Nat) : 0 ≤ (ascL l).getD x 0 ∧ (ascL l).getD x 0 ≤ 64 := by
  rw [List.getD_eq_getElem?_getD]
  cases h : (ascL l)[x]? with
  | none => simp
  | some a =>
    have := area_in okl a ((asc_perm l).mem_iff.1 (List.mem_of_getElem? h))
    simp only [Option.getD_some]
    omega
theorem leftP_le {F : Int} {zs : List Int} (h : ∀ x, 0 ≤ zs.getD x 0) : ∀ pre : List Nat, leftP F zs pre ≤ F := fun pre => by
  have : 0 ≤ (pre.map fun i => zs.getD i 0).sum := sum_nonneg fun a ha => by
    obtain ⟨i, -, rfl⟩ := List.mem_map.1 ha
    exact h i
  unfold leftP
  omega
theorem areas_all {l : List Plate} (okl : platesB l = true) : (areasL l).length ≤ 792 := by
  have h1 := areas_len okl l.length
  rw [List.take_of_length_le (Nat.le_refl _)] at h1
  have h2 := (plates_len okl).2
  omega
theorem blk_put {X : World} {g D : Nat} {t : TypeId} {cs : Array Value} {d : Option (List Deferred)} (h : Blk X g t cs) (hK : X.heap[D]? = some (.deferred d)) (o' : Obj) : Blk (X.putObj D o') g t cs := h.grown (grownBy_putObj' X D o') (fun e => by
  cases e
  rw [show X.heap[g]? = _ from h] at hK
  cases hK)
/-- A range over an iterator whose loop variables lie in no box. -/
theorem wpIn_range_upd {F : Fence} {n : Nat} {P : Program} {α : Type} {g : Operand} {ps : Array Tmp} {assign body : Code} {Q : Exit → Act → World → Prop} {a : Act} {w : World}
    (hro : F.round = none) (h1 : 1 ≤ n) {gf : Nat} {lb : Array Value} (hg : a.eval g = .func (.func gf) #[] lb) (hFg : F.fn gf) (eg : ∀ args w, (callFunc gf args).run P w = .ok (.enter gf args) w)
    {encs : α → Array Value} {Kp : World → World → Prop} {S Sp : List α → Prop} {N : Nat} {w0 : World} (hseq : SeqStopsK F (n - 1) P gf lb encs Kp S Sp N w0) (hKr : ∀ W : World, Kp W W)
    (hKt : ∀ {A B C : World}, Kp A B → Kp B C → Kp A C) (hKb : ∀ (W : World) (l : Nat) (o o' : Obj), w.heap.size ≤ l → W.heap[l]? = some o → o.isCells = false → o.isWalk = false → Kp W (W.putObj l o')) (hb0 : Below w0.heap.size w0 w) (hps : ∀ x, (encs x).size = ps.size)
    (I : List α → World → Prop) (Ix : Code → List α → World → Prop) (hI : OwnFrom w.heap.size I) (hIx : ∀ c, OwnFrom w.heap.size (Ix c)) (h0 : I [] w) (upd : α → Array Value → Array Value)
    (hassign : ∀ (l : Nat) (x : α) (W : World) (K : Act → World → Prop), K { tmps := upd x a.tmps, defers := [] } W →
      assign.wpIn (F.inRound l) (n - 1 - 1) P (Exit.then K (fun _ _ _ => False)) { tmps := (ps.zip (encs x)).foldl (fun t (p, v) => t.setIfInBounds p v) a.tmps, defers := [] } W)
    (hbody : ∀ (l : Nat) (pre : List α) (x : α) (W : World), w.heap.size ≤ l → I pre W → pre.length < N → body.wpIn (F.inRound l) (n - 1 - 1) P (ownPostG w.heap.size Kp I Ix (pre ++ [x]) W) { tmps := upd x a.tmps, defers := [] } W)
    (hdone : ∀ (D : Nat) (xs : List α) (W : World), w.heap.size ≤ D → S xs → I xs W → W.heap[D]? = some (.deferred (some [])) → Q .normal { a with defers := { target := .collected D, args := #[] } :: a.defers } W)
    (hstop : ∀ (D : Nat) (c : Code) (pre : List α) (W : World), w.heap.size ≤ D → Sp pre → Ix c pre W → W.heap[D]? = some (.deferred (some [])) → c.wpIn F n P Q { a with defers := { target := .collected D, args := #[] } :: a.defers } W) :
    (Code.rangeFunc g ps assign body).wpIn F n P Q a w :=
  wpIn_rangeFunc_ownH hro h1 hg hFg eg hseq hKt hKb hb0 hps I Ix hI hIx h0 (fun x a' _ => a' = { tmps := upd x a.tmps, defers := [] }) (fun _ _ _ _ _ _ hs _ _ => hs)
    (fun l _ x W K hi hK => hassign l x W K (hK _ _ (KeepsFrom.refl _ _) (hKr _) hi rfl))
    (fun l pre x a' W hl _ hi ha hlen => by subst ha; exact hbody l pre x W hl hi hlen) hdone hstop
/-- A block of numbers as a slice. -/
theorem nums_blk {w : World} {g : Nat} {zs : List Int} (h : Blk w g 3 (intsA zs)) (hz : zs.length ≤ 100000) : SliceIs w (some ⟨g, 0, none⟩) zs.length zs.length 1 (zs.map fun z => [iv z]) := by
  refine ⟨by simp, Nat.le_refl _, by unfold maxLen; omega, fun r hr => ?_, fun _ => ⟨g, 0, rfl, h.lt, fun i r hr j u hu => ?_⟩⟩
  · obtain ⟨z, -, rfl⟩ := List.mem_map.1 hr
    rfl
  · rw [List.getElem?_map] at hr
    cases hi : zs[i]? with
    | none => rw [hi] at hr; cases hr
    | some z =>
      rw [hi] at hr
      cases hr
      cases j with
      | zero =>
        cases hu
        rw [Nat.zero_add, Nat.mul_one, Nat.add_zero, h.cell, intsA_get, hi]
        rfl
      | succ j => simp at hu
theorem flat_iv (zs : List Int) : (zs.map fun z => [iv z]).flatten = zs.map iv := by
  induction zs with
  | nil => rfl
  | cons a zs ih => simp [ih]
/-- The areas so far, in a row of the call's own. -/
def AreasAt (l : List Plate) (w4 : World) (BA k : Nat) (w : World) : Prop := Ext w4 w ∧ ∃ av, Blk w BA 97 #[av] ∧ w.ownsRow (BA + 1) 3 1 av (areasL (l.take k)).length ((areasL (l.take k)).map iv)
structure Le8 (W0 : World) (BA PB U : Nat) (av : Value) (n N : Nat) (xs : List Int) (pw pd a : Int) (pc : Array Value) (L : Nat → Bool) (us : Nat → Value) (w : World) : Prop where
  x : Ext W0 w
  g0 : L 11 = false → Blk w BA 97 #[av]
  g1 : L 10 = false → w.ownsRow U 3 1 av n (xs.map iv)
  g2 : L 6 = true → L 9 = false → Blk w (bk (us 6)) 3 #[.int .i64 a]
  g3 : L 9 = true → L 10 = false → Blk w (bk (us 9)) 3 (intsA (List.replicate N a))
  g4 : Blk w PB 39 pc
  g5 : L 11 = true → Blk w BA 97 #[us 10] ∧ w.ownsRow U 3 1 (us 10) (n + N) ((xs ++ List.replicate N a).map iv)
  f0 : L 0 = true → us 0 = av
  f1 : L 1 = true → us 1 = .pointer (some ⟨PB, 0, none⟩)
  f2 : L 2 = true → us 2 = .int .i64 pw
  f3 : L 3 = true → us 3 = .pointer (some ⟨PB, 1, none⟩)
  f4 : L 4 = true → us 4 = .int .i64 pd
  f5 : L 5 = true → us 5 = .int .i64 a
  f6 : L 6 = true → us 6 = .slice (some ⟨bk (us 6), 0, none⟩) 1 1
  f7 : L 7 = true → us 7 = .pointer (some ⟨PB, 2, none⟩)
  f8 : L 8 = true → us 8 = .int .i64 N
  f9 : L 9 = true → us 9 = .slice (some ⟨bk (us 9), 0, none⟩) N N
  f10 : L 10 = true → L 11 = false → w.ownsRow U 3 1 (us 10) (n + N) ((xs ++ List.replicate N a).map iv)
set_option maxRecDepth 100000 in
set_option maxHeartbeats 8000000 in
theorem least_c (s : Shape) (A : Option Addr) (cap : Nat) (l : List Plate) (PA : Option Addr) (pcap : Nat) (w : World) (hs : Bytes w A cap s.cells) (hl : Plates w PA pcap l) :
    Calls Tryd.prog 12 #[.agg #[.int .i64 s.W, .int .i64 s.D, .int .i64 s.H, .slice A s.cells.length cap], .slice PA l.length pcap] w fun e w' => e = .returned (.tuple #[.int .i64 (leastI s l), .int .i64 (leastE s l)]) ∧ Ext w w' := by
  refine (callsIn_wide (n := 5)).1 ?_
  refine callsIn_of_wp_marks Tryd.func12 rfl trivial ?_ rfl
  simp only [Tryd.ntmps12, List.size_toArray, List.length_cons, List.length_nil, Nat.reduceAdd, Nat.reduceSub, Array.replicate_succ, Array.replicate_zero, List.push_toArray, List.append_toArray, List.nil_append, List.cons_append]
  refine wpIn_wide.2 ?_
  obtain ⟨W1, hW1, E1, B1, hz1⟩ := box_ w #[.int .i64 s.W, .int .i64 s.D, .int .i64 s.H, .slice A s.cells.length cap] 24
  obtain ⟨W2, hW2, E2, B2, hz2⟩ := box_ W1 #[.int .i64 0] 3
  obtain ⟨W3, hW3, E3, B3, hz3⟩ := box_ W2 #[.int .i64 0] 28
  rw [hz1] at B2 hz2
  rw [hz2] at B3 hz3
  have E := (E1.trans E2).trans E3
  have B1' := (B1.ext E2).ext E3
  have B2' := B2.ext E3
  obtain ⟨S, hS⟩ : ∃ S, w.heap.size = S := ⟨_, rfl⟩
  rw [hS] at B1' B2' B3 hz1 hz2 hz3
  have b1 := B1'.cell
  have HS := Lib.hid hS
  obtain ⟨e0, he⟩ : ∃ e0, askErr s l = e0 := ⟨_, rfl⟩
  have HE := Lib.hid E
  have HB1 := Lib.hid B1'
  have HB2 := Lib.hid B2'
  have HB3 := Lib.hid B3
  by_cases h0 : e0 = 0
  · subst h0
    have hv : s.valid = true ∧ platesB l = true := by
      unfold askErr platesErr at he
      split at he
      · split at he
        · exact ⟨by assumption, by assumption⟩
        · omega
      · omega
    have okl := hv.2
    have ok := Shape.ok_of hv.1
    have hfull := ok.full
    have C1 := look_ok s l A cap PA pcap hv.1 hv.2 W3 (hs.ext E) (hl.ext E)
    have Hok := Lib.hid (show askErr s l = 0 ∧ platesB l = true ∧ 0 < fullN s.cells ∧ fullN s.cells ≤ 16 from ⟨he, okl, hfull⟩)
    have Hs := Lib.hid hs
    have Hl := Lib.hid hl
    clear he hv okl ok hfull hs hl E1 E2 E3 B1 B2 B3 B1' B2' E
    go_wp2_with fail
    refine C1.mono ?_
    rintro e w4 ⟨g, NA, ncap, AA, acap, EA, ec, OA, oc, LA, lc, ms, rfl, hB, E4⟩
    have HE4 := Lib.hid (HE.out.trans E4)
    have D1 := HB1.out.ext E4
    have HD1 := Lib.hid D1
    have HD2 := Lib.hid (HB2.out.ext E4)
    have HD3 := Lib.hid (HB3.out.ext E4)
    obtain ⟨W5, hW5, E5, B5, hz5⟩ := box_ w4 #[.slice none 0 0] 97
    obtain ⟨BA, hBA⟩ : ∃ S, w4.heap.size = S := ⟨_, rfl⟩
    have HBA := Lib.hid hBA
    have R0 : AreasAt l w4 BA 0 W5 := ⟨E5, _, by rw [hBA] at B5; exact B5, World.ownsRow_nil _ _ _ _⟩
    have HR0 := Lib.hid R0
    clear hB E4 D1 E5 B5 hz5 R0 b1 C1
    go_wp2_with fail
    clear hW5 hBA
    go_loopw [25] (fun i wr => ∃ k : Nat, k ≤ l.length ∧ i = .int .i64 k ∧ AreasAt l w4 BA k wr) (fun i _ => l.length - (intOf i).toNat)
    case atStart => exact ⟨0, by omega, rfl, HR0.out⟩
    case round =>
      obtain ⟨k, hk, rfl, HR⟩ := hrel
      obtain ⟨EX, av, hBX, own⟩ := HR
      clear HR0
      by_cases hlt : k < l.length
      · obtain ⟨b, off, p, hPA, hp, hb, p0, p1, p2, p3⟩ := (Hl.out.ext (HE4.out.trans EX)).at_ hlt
        subst hPA
        have Hlt := Lib.hid hlt
        have pok := plate_ok Hok.out.2.1 hp
        have hlen := areas_len Hok.out.2.1 k
        have hl8 := (plates_len Hok.out.2.1).2
        have hnext := areas_succ hp
        obtain ⟨pw, pd, pn, pc⟩ := p
        obtain ⟨N, rfl⟩ := Int.eq_ofNat_of_zero_le pok.n.1
        have hN : N ≤ 99 := by have := pok.n.2; simp only at this; omega
        have hm1 : pw * pd ≤ 8 * 8 := by
          have h1 := pok.w
          have h2 := pok.d
          exact Int.mul_le_mul (by simp only at h1 h2; omega) h2 (by simp only at h1 h2; omega) (by omega)
        have hm0 : 0 ≤ pw * pd := by
          have h1 := pok.w
          simp only at h1
          exact Int.mul_nonneg (by omega) (by omega)
        obtain ⟨a, ha⟩ : ∃ a, pw * pd = a := ⟨_, rfl⟩
        have hnext' : areasL (l.take (k + 1)) = areasL (l.take k) ++ List.replicate N a := by rw [hnext, ← ha]; rfl
        rw [ha] at hm1 hm0
        obtain ⟨xs, hxs⟩ : ∃ xs, areasL (l.take k) = xs := ⟨_, rfl⟩
        rw [hxs] at own hlen hnext'
        have Hnext := Lib.hid hnext'
        have wa : IntKind.i64.wrap a = a := IntWalk.i64_in _ (by omega)
        obtain ⟨V, hV, EV, BP, hzV⟩ := box_ wr #[.int .i64 pw, .int .i64 pd, .int .i64 N, .int .u8 pc] 39
        obtain ⟨PB, hPB⟩ : ∃ S, wr.heap.size = S := ⟨_, rfl⟩
        rw [hPB] at BP
        have hbl := hBX.lt
        have HBX := Lib.hid (hBX.ext EV)
        have HBP := Lib.hid BP
        have Hown := Lib.hid (own_ext own EV)
        have HEX := Lib.hid (EX.trans EV)
        have HPB := Lib.hid (show BA < PB by omega)
        have Hlen := Lib.hid (show xs.length ≤ 792 by omega)
        clear hnext hnext' hxs pok hp hlen EX hBX own BP EV hzV hbl hm1 hm0
        go_upto_region 8 with (fail)
        clear hV hPB p0 p1 p2 p3
        refine wp_region_by (Le8 w4 BA PB (BA + 1) av xs.length N xs pw pd a #[.int .i64 pw, .int .i64 pd, .int .i64 N, .int .u8 pc]) (by kernel_rfl) (by kernel_rfl) (by kernel_rfl) (fun us => ⟨HEX.out.drew, (fun _ => HBX.out), (fun _ => own_ext Hown.out (Ext.refl _).drew), (nofun), (nofun), HBP.out, (nofun), (nofun), (nofun), (nofun), (nofun), (nofun), (nofun), (nofun), (nofun), (nofun), (nofun), (nofun)⟩) ⟨?_, ?_, ?_, ?_, ?_, ?_, ?_, ?_, ?_, ?_, ?_, ?_, trivial⟩ ?_
        · intro L us wx K a ha hp hd hun hI hK
          have HX := hI.x
          have h11 : L 11 = false := Bool.eq_false_iff.2 fun hl => absurd (hd 11 0 hl (by kernel_rfl)) (by rw [hun]; decide)
          have bb := (hI.g0 h11).cell
          clear hp HX
          replace hd := Lib.hid hd
          simp only [putAll, Act.put, List.setIfInBounds_toArray, List.set_cons_succ, List.set_cons_zero, Nat.reduceAdd] at ha
          subst ha
          simp only [Act.put, List.setIfInBounds_toArray, List.set_cons_succ, List.set_cons_zero] at hK
          go_simp
          refine hK _ _ ?_
          first
          | (refine ⟨hI.x, hI.g0, hI.g1, hI.g2, hI.g3, hI.g4, hI.g5, ?_, hI.f1, hI.f2, hI.f3, hI.f4, hI.f5, hI.f6, hI.f7, hI.f8, hI.f9, hI.f10⟩ <;> (first | exact fun _ => rfl | skip))
          | (refine ⟨?_, ?_, ?_, ?_, ?_, ?_, ?_, ?_, ?_, ?_, ?_, ?_, ?_, ?_, ?_, ?_, ?_, ?_⟩ <;> (first | exact hI.x | exact hI.g0 | exact hI.g1 | exact hI.g2 | exact hI.g3 | exact hI.g4 | exact hI.g5 | exact hI.f0 | exact hI.f1 | exact hI.f2 | exact hI.f3 | exact hI.f4 | exact hI.f5 | exact hI.f6 | exact hI.f7 | exact hI.f8 | exact hI.f9 | exact hI.f10 | exact fun _ => rfl | skip))
        · intro L us wx K a ha hp hd hun hI hK
          have HX := hI.x
          clear hp HX
          replace hd := Lib.hid hd
          simp only [putAll, Act.put, List.setIfInBounds_toArray, List.set_cons_succ, List.set_cons_zero, Nat.reduceAdd] at ha
          subst ha
          simp only [Act.put, List.setIfInBounds_toArray, List.set_cons_succ, List.set_cons_zero] at hK
          go_simp
          refine hK _ _ ?_
          first
          | (refine ⟨hI.x, hI.g0, hI.g1, hI.g2, hI.g3, hI.g4, hI.g5, hI.f0, ?_, hI.f2, hI.f3, hI.f4, hI.f5, hI.f6, hI.f7, hI.f8, hI.f9, hI.f10⟩ <;> (first | exact fun _ => rfl | skip))
          | (refine ⟨?_, ?_, ?_, ?_, ?_, ?_, ?_, ?_, ?_, ?_, ?_, ?_, ?_, ?_, ?_, ?_, ?_, ?_⟩ <;> (first | exact hI.x | exact hI.g0 | exact hI.g1 | exact hI.g2 | exact hI.g3 | exact hI.g4 | exact hI.g5 | exact hI.f0 | exact hI.f1 | exact hI.f2 | exact hI.f3 | exact hI.f4 | exact hI.f5 | exact hI.f6 | exact hI.f7 | exact hI.f8 | exact hI.f9 | exact hI.f10 | exact fun _ => rfl | skip))
        · intro L us wx K a ha hp hd hun hI hK
          have HX := hI.x
          have u1 := hI.f1 (hp 1 (by kernel_rfl))
          have bb := hI.g4.cell
          clear hp HX
          replace hd := Lib.hid hd
          simp only [putAll, Act.put, List.setIfInBounds_toArray, List.set_cons_succ, List.set_cons_zero, Nat.reduceAdd, u1] at ha
          subst ha
          simp only [Act.put, List.setIfInBounds_toArray, List.set_cons_succ, List.set_cons_zero] at hK
          go_simp
          refine hK _ _ ?_
          first
          | (refine ⟨hI.x, hI.g0, hI.g1, hI.g2, hI.g3, hI.g4, hI.g5, hI.f0, hI.f1, ?_, hI.f3, hI.f4, hI.f5, hI.f6, hI.f7, hI.f8, hI.f9, hI.f10⟩ <;> (first | exact fun _ => rfl | skip))
          | (refine ⟨?_, ?_, ?_, ?_, ?_, ?_, ?_, ?_, ?_, ?_, ?_, ?_, ?_, ?_, ?_, ?_, ?_, ?_⟩ <;> (first | exact hI.x | exact hI.g0 | exact hI.g1 | exact hI.g2 | exact hI.g3 | exact hI.g4 | exact hI.g5 | exact hI.f0 | exact hI.f1 | exact hI.f2 | exact hI.f3 | exact hI.f4 | exact hI.f5 | exact hI.f6 | exact hI.f7 | exact hI.f8 | exact hI.f9 | exact hI.f10 | exact fun _ => rfl | skip))
        · intro L us wx K a ha hp hd hun hI hK
          have HX := hI.x
          clear hp HX
          replace hd := Lib.hid hd
          simp only [putAll, Act.put, List.setIfInBounds_toArray, List.set_cons_succ, List.set_cons_zero, Nat.reduceAdd] at ha
          subst ha
          simp only [Act.put, List.setIfInBounds_toArray, List.set_cons_succ, List.set_cons_zero] at hK
          go_simp
          refine hK _ _ ?_
          first
          | (refine ⟨hI.x, hI.g0, hI.g1, hI.g2, hI.g3, hI.g4, hI.g5, hI.f0, hI.f1, hI.f2, ?_, hI.f4, hI.f5, hI.f6, hI.f7, hI.f8, hI.f9, hI.f10⟩ <;> (first | exact fun _ => rfl | skip))
          | (refine ⟨?_, ?_, ?_, ?_, ?_, ?_, ?_, ?_, ?_, ?_, ?_, ?_, ?_, ?_, ?_, ?_, ?_, ?_⟩ <;> (first | exact hI.x | exact hI.g0 | exact hI.g1 | exact hI.g2 | exact hI.g3 | exact hI.g4 | exact hI.g5 | exact hI.f0 | exact hI.f1 | exact hI.f2 | exact hI.f3 | exact hI.f4 | exact hI.f5 | exact hI.f6 | exact hI.f7 | exact hI.f8 | exact hI.f9 | exact hI.f10 | exact fun _ => rfl | skip))
        · intro L us wx K a ha hp hd hun hI hK
          have HX := hI.x
          have u3 := hI.f3 (hp 3 (by kernel_rfl))
          have bb := hI.g4.cell
          clear hp HX
          replace hd := Lib.hid hd
          simp only [putAll, Act.put, List.setIfInBounds_toArray, List.set_cons_succ, List.set_cons_zero, Nat.reduceAdd, u3] at ha
          subst ha
          simp only [Act.put, List.setIfInBounds_toArray, List.set_cons_succ, List.set_cons_zero] at hK
          go_simp
          refine hK _ _ ?_
          first
          | (refine ⟨hI.x, hI.g0, hI.g1, hI.g2, hI.g3, hI.g4, hI.g5, hI.f0, hI.f1, hI.f2, hI.f3, ?_, hI.f5, hI.f6, hI.f7, hI.f8, hI.f9, hI.f10⟩ <;> (first | exact fun _ => rfl | skip))
          | (refine ⟨?_, ?_, ?_, ?_, ?_, ?_, ?_, ?_, ?_, ?_, ?_, ?_, ?_, ?_, ?_, ?_, ?_, ?_⟩ <;> (first | exact hI.x | exact hI.g0 | exact hI.g1 | exact hI.g2 | exact hI.g3 | exact hI.g4 | exact hI.g5 | exact hI.f0 | exact hI.f1 | exact hI.f2 | exact hI.f3 | exact hI.f4 | exact hI.f5 | exact hI.f6 | exact hI.f7 | exact hI.f8 | exact hI.f9 | exact hI.f10 | exact fun _ => rfl | skip))
        · intro L us wx K a ha hp hd hun hI hK
          have HX := hI.x
          have u2 := hI.f2 (hp 2 (by kernel_rfl))
          have u4 := hI.f4 (hp 4 (by kernel_rfl))
          clear hp HX
          replace hd := Lib.hid hd
          simp only [putAll, Act.put, List.setIfInBounds_toArray, List.set_cons_succ, List.set_cons_zero, Nat.reduceAdd, u2, u4] at ha
          subst ha
          simp only [Act.put, List.setIfInBounds_toArray, List.set_cons_succ, List.set_cons_zero] at hK
          go_simp
          refine hK _ _ ?_
          first
          | (refine ⟨hI.x, hI.g0, hI.g1, hI.g2, hI.g3, hI.g4, hI.g5, hI.f0, hI.f1, hI.f2, hI.f3, hI.f4, ?_, hI.f6, hI.f7, hI.f8, hI.f9, hI.f10⟩ <;> (first | exact fun _ => rfl | skip))
          | (refine ⟨?_, ?_, ?_, ?_, ?_, ?_, ?_, ?_, ?_, ?_, ?_, ?_, ?_, ?_, ?_, ?_, ?_, ?_⟩ <;> (first | exact hI.x | exact hI.g0 | exact hI.g1 | exact hI.g2 | exact hI.g3 | exact hI.g4 | exact hI.g5 | exact hI.f0 | exact hI.f1 | exact hI.f2 | exact hI.f3 | exact hI.f4 | exact hI.f5 | exact hI.f6 | exact hI.f7 | exact hI.f8 | exact hI.f9 | exact hI.f10 | exact fun _ => rfl | skip))
        · intro L us wx K a' ha hp hd hun hI hK
          have u5 := hI.f5 (hp 5 (by kernel_rfl))
          have h9 : L 9 = false := Bool.eq_false_iff.2 fun hl => absurd (hd 9 6 hl (by kernel_rfl)) (by rw [hun]; decide)
          have h10 : L 10 = false := Bool.eq_false_iff.2 fun hl => absurd (hd 10 9 hl (by kernel_rfl)) (by rw [h9]; decide)
          have h11 : L 11 = false := Bool.eq_false_iff.2 fun hl => absurd (hd 11 10 hl (by kernel_rfl)) (by rw [h10]; decide)
          replace hd := Lib.hid hd
          simp only [putAll, Act.put, List.setIfInBounds_toArray, List.set_cons_succ, List.set_cons_zero, Nat.reduceAdd, u5] at ha
          subst ha
          simp only [Act.put, List.setIfInBounds_toArray, List.set_cons_succ, List.set_cons_zero] at hK
          go_simp
          have EW : Ext wx (wx.alloc (.cells #[.int .i64 a] 3)) := (Ext.refl wx).alloc _
          exact hK _ _ ⟨hI.x.trans EW, (fun h => (hI.g0 h).ext EW), (fun h => own_ext (hI.g1 h) EW), (fun _ _ => Blk.new _ _ _), (fun h h2 => (hI.g3 h h2).ext EW), (hI.g4.ext EW), (fun h => absurd (show L 11 = true from h) (by rw [h11]; decide)), hI.f0, hI.f1, hI.f2, hI.f3, hI.f4, hI.f5, (fun _ => rfl), hI.f7, hI.f8, hI.f9, (fun h h2 => own_ext (hI.f10 h h2) EW)⟩
        · intro L us wx K a ha hp hd hun hI hK
          have HX := hI.x
          clear hp HX
          replace hd := Lib.hid hd
          simp only [putAll, Act.put, List.setIfInBounds_toArray, List.set_cons_succ, List.set_cons_zero, Nat.reduceAdd] at ha
          subst ha
          simp only [Act.put, List.setIfInBounds_toArray, List.set_cons_succ, List.set_cons_zero] at hK
          go_simp
          refine hK _ _ ?_
          first
          | (refine ⟨hI.x, hI.g0, hI.g1, hI.g2, hI.g3, hI.g4, hI.g5, hI.f0, hI.f1, hI.f2, hI.f3, hI.f4, hI.f5, ?_, hI.f7, hI.f8, hI.f9, hI.f10⟩ <;> (first | exact fun _ => rfl | skip))
          | (refine ⟨?_, ?_, ?_, ?_, ?_, ?_, ?_, ?_, ?_, ?_, ?_, ?_, ?_, ?_, ?_, ?_, ?_, ?_⟩ <;> (first | exact hI.x | exact hI.g0 | exact hI.g1 | exact hI.g2 | exact hI.g3 | exact hI.g4 | exact hI.g5 | exact hI.f0 | exact hI.f1 | exact hI.f2 | exact hI.f3 | exact hI.f4 | exact hI.f5 | exact hI.f6 | exact hI.f7 | exact hI.f8 | exact hI.f9 | exact hI.f10 | exact fun _ => rfl | skip))
        · intro L us wx K a ha hp hd hun hI hK
          have HX := hI.x
          have u7 := hI.f7 (hp 7 (by kernel_rfl))
          have bb := hI.g4.cell
          clear hp HX
          replace hd := Lib.hid hd
          simp only [putAll, Act.put, List.setIfInBounds_toArray, List.set_cons_succ, List.set_cons_zero, Nat.reduceAdd, u7] at ha
          subst ha
          simp only [Act.put, List.setIfInBounds_toArray, List.set_cons_succ, List.set_cons_zero] at hK
          go_simp
          refine hK _ _ ?_
          first
          | (refine ⟨hI.x, hI.g0, hI.g1, hI.g2, hI.g3, hI.g4, hI.g5, hI.f0, hI.f1, hI.f2, hI.f3, hI.f4, hI.f5, hI.f6, ?_, hI.f8, hI.f9, hI.f10⟩ <;> (first | exact fun _ => rfl | skip))
          | (refine ⟨?_, ?_, ?_, ?_, ?_, ?_, ?_, ?_, ?_, ?_, ?_, ?_, ?_, ?_, ?_, ?_, ?_, ?_⟩ <;> (first | exact hI.x | exact hI.g0 | exact hI.g1 | exact hI.g2 | exact hI.g3 | exact hI.g4 | exact hI.g5 | exact hI.f0 | exact hI.f1 | exact hI.f2 | exact hI.f3 | exact hI.f4 | exact hI.f5 | exact hI.f6 | exact hI.f7 | exact hI.f8 | exact hI.f9 | exact hI.f10 | exact fun _ => rfl | skip))
        · intro L us wx K a' ha hp hd hun hI hK
          have u6 := hI.f6 (hp 6 (by kernel_rfl))
          have u8 := hI.f8 (hp 8 (by kernel_rfl))
          have b6 := hI.g2 (hp 6 (by kernel_rfl)) hun
          have h10 : L 10 = false := Bool.eq_false_iff.2 fun hl => absurd (hd 10 9 hl (by kernel_rfl)) (by rw [hun]; decide)
          have h11 : L 11 = false := Bool.eq_false_iff.2 fun hl => absurd (hd 11 10 hl (by kernel_rfl)) (by rw [h10]; decide)
          obtain ⟨g6, hg6⟩ : ∃ g, bk (us 6) = g := ⟨_, rfl⟩
          rw [hg6] at u6 b6
          have CC := repeat_c g6 a N (by omega) wx (b6.cell 0)
          replace hd := Lib.hid hd
          simp only [putAll, Act.put, List.setIfInBounds_toArray, List.set_cons_succ, List.set_cons_zero, Nat.reduceAdd, u6, u8] at ha
          subst ha
          simp only [Act.put, List.setIfInBounds_toArray, List.set_cons_succ, List.set_cons_zero] at hK
          clear u6 u8 b6
          go_simp
          go_at_call 45
          refine CC.mono ?_
          rintro e wn ⟨g9, rfl, B9, hg9, En⟩
          go_simp
          exact hK _ _ ⟨hI.x.trans En, (fun h => (hI.g0 h).ext En), (fun h => own_ext (hI.g1 h) En), (fun _ h => nomatch (show true = false from h)), (fun _ _ => B9), (hI.g4.ext En), (fun h => absurd (show L 11 = true from h) (by rw [h11]; decide)), hI.f0, hI.f1, hI.f2, hI.f3, hI.f4, hI.f5, hI.f6, hI.f7, hI.f8, (fun _ => rfl), (fun h h2 => own_ext (hI.f10 h h2) En)⟩
        · intro L us wx K a' ha hp hd hun hI hK
          have u0 := hI.f0 (hp 0 (by kernel_rfl))
          have u9 := hI.f9 (hp 9 (by kernel_rfl))
          have b9 := hI.g3 (hp 9 (by kernel_rfl)) hun
          have own := hI.g1 hun
          have h11 : L 11 = false := Bool.eq_false_iff.2 fun hl => absurd (hd 11 10 hl (by kernel_rfl)) (by rw [hun]; decide)
          have bX := hI.g0 h11
          obtain ⟨g9, hg9⟩ : ∃ g, bk (us 9) = g := ⟨_, rfl⟩
          rw [hg9] at u9 b9
          have hS : SliceIs wx (some ⟨g9, 0, none⟩) N N 1 ((List.replicate N a).map fun z => [iv z]) := by
            have h := nums_blk b9 (by rw [List.length_replicate]; omega)
            rw [List.length_replicate] at h
            exact h
          have hbx := bX.lt
          obtain ⟨iL, hiL, zL0, zL1, zL2⟩ := info_parts infoInt
          have hW := hI.x.size
          have hba := HBA.out
          replace hd := Lib.hid hd
          simp only [putAll, Act.put, List.setIfInBounds_toArray, List.set_cons_succ, List.set_cons_zero, Nat.reduceAdd, u0, u9] at ha
          subst ha
          simp only [Act.put, List.setIfInBounds_toArray, List.set_cons_succ, List.set_cons_zero] at hK
          refine step_append_any rfl (.tmp 29) (.tmp 38) 97 rfl (BA + 1) 3 iL _ 1 8 Tryd.underlying97 hiL zL0 zL1 zL2 rfl (by decide) av xs.length (xs.map iv) rfl own (some ⟨g9, 0, none⟩) N N ((List.replicate N a).map fun z => [iv z]) rfl hS (nofun) (fun u hu => ?_) (by unfold maxLen; have := Hlen.out; omega) (by have := Hlen.out; omega) (by omega) ?_
          · rw [flat_iv] at hu
            obtain ⟨z, -, rfl⟩ := List.mem_map.1 hu
            rfl
          · intro v2 w2 own2 hg2
            rw [flat_iv, ← List.map_append] at own2
            have hfar : ∀ k, av.ownBlock = some k → BA + 1 ≤ k := fun k hk => (own.lt k hk).1
            exact hK _ _ ⟨hI.x.grown hg2 (fun k hk => by have := hfar k hk; omega), (fun h => blkGrown (hI.g0 h) own hg2 (by decide)), (fun h => nomatch (show true = false from h)), (fun _ h => absurd (show L 9 = false from h) (by rw [hp 9 (by kernel_rfl)]; decide)), (fun _ h => nomatch (show true = false from h)), (blkGrown hI.g4 own hg2 (by decide)), (fun h => absurd (show L 11 = true from h) (by rw [h11]; decide)), hI.f0, hI.f1, hI.f2, hI.f3, hI.f4, hI.f5, hI.f6, hI.f7, hI.f8, hI.f9, (fun _ _ => own2)⟩
        · intro L us wx K a' ha hp hd hun hI hK
          have h10 := hp 10 (by kernel_rfl)
          have own := hI.f10 h10 hun
          have bX := hI.g0 hun
          have hb8 := bX.cell
          have hf8 := bX.frozen
          have hl8 := bX.lt
          have hba := HBA.out
          have hPB := HPB.out
          obtain ⟨A10, c10, u10⟩ := ownForm own
          rw [u10] at own
          have h9 := hd 10 9 h10 (by kernel_rfl)
          replace hd := Lib.hid hd
          simp only [putAll, Act.put, List.setIfInBounds_toArray, List.set_cons_succ, List.set_cons_zero, Nat.reduceAdd, u10] at ha
          subst ha
          simp only [Act.put] at hK
          have U10 := Lib.hid u10
          clear u10
          go_simp
          exact hK undef _ ⟨hI.x.setCell (p := ⟨BA, 0, none⟩) (by simp only; omega) _, (fun h => nomatch (show true = false from h)), (fun h => absurd (show L 10 = false from h) (by rw [h10]; decide)), (fun _ h => absurd (show L 9 = false from h) (by rw [h9]; decide)), (fun _ h => absurd (show L 10 = false from h) (by rw [h10]; decide)), (hI.g4.far (p := ⟨BA, 0, none⟩) (by simp only; omega) _), (fun _ => by show Blk _ _ _ #[us 10] ∧ World.ownsRow _ _ _ _ (us 10) _ _; rw [U10.out]; exact ⟨bX.set_ 0 _, own_setCell own (p := ⟨BA, 0, none⟩) (by simp only; omega) _⟩), hI.f0, hI.f1, hI.f2, hI.f3, hI.f4, hI.f5, hI.f6, hI.f7, hI.f8, hI.f9, (fun _ h => nomatch (show true = false from h))⟩
        intro L us W9 hall hI
        have hg5 := hI.g5 (hall 11 (by simp))
        have hnew : AreasAt l w4 BA (k + 1) W9 := by
          refine ⟨hI.x, us 10, hg5.1, ?_⟩
          rw [Hnext.out, List.length_append, List.length_replicate]
          exact hg5.2
        have Hnew := Lib.hid hnew
        clear hg5 hnew hI hall
        simp only [putAll, Act.put, List.setIfInBounds_toArray, List.set_cons_succ, List.set_cons_zero, Nat.reduceAdd]
        go_wp2_with fail
        go_roundw
        case rel => exact ⟨k + 1, by have := Hlt.out; omega, by go_num, Hnew.out⟩
        case measure => have := Hlt.out; simp only [intOf]; omega
      · obtain rfl : k = l.length := by omega
        rw [List.take_of_length_le (Nat.le_refl _)] at own
        obtain ⟨zA, zc, rfl⟩ := ownForm own
        have Hown := Lib.hid own
        have HBX := Lib.hid hBX
        have HEX := Lib.hid EX
        have hba := hBX.lt
        have bX := hBX.cell
        have CS := sortI_c (BA + 1) zA zc (areasL l) (by have := areas_all Hok.out.2.1; omega) wr own
        have hle := areas_all Hok.out.2.1
        have e1 : (areasL l).mergeSort (fun x y => decide (x ≤ y)) = ascL l := rfl
        unfold SortPost at CS
        rw [e1] at CS
        have e2 := asc_len l
        obtain ⟨zn, hzn⟩ : ∃ n, (areasL l).length = n := ⟨_, rfl⟩
        rw [hzn] at CS hle e2 bX HBX Hown
        have He2 := Lib.hid e2
        clear own hBX EX e1 e2 hzn
        go_wp2_with fail
        refine CS.mono ?_
        rintro e w6 ⟨rfl, own6, hg6⟩
        have hsz6 := hg6.size
        have B6 := HBX.out.grown hg6 (fun e => by have := (Hown.out.lt _ e.symm).1; omega)
        have b6 := B6.cell
        have hw4 := HEX.out.size
        have E6 : Ext w4 w6 := HEX.out.grown hg6 (fun k hk => by have := (Hown.out.lt k hk).1; have := HBA.out; omega)
        have HE6 := Lib.hid (HE4.out.trans E6)
        have HB6 := Lib.hid B6
        have HD16 := Lib.hid (HD1.out.ext E6)
        have HD26 := Lib.hid (HD2.out.ext E6)
        have HD36 := Lib.hid (HD3.out.ext E6)
        have d1 := HD16.out.cell
        have Hown6 := Lib.hid own6
        clear own6 hg6 hsz6 B6 E6 hw4 CS
        obtain ⟨FF, hFF⟩ : ∃ F : Int, (fullN s.cells : Int) = F := ⟨_, rfl⟩
        have HFF := Lib.hid hFF
        have hF16 : 1 ≤ FF ∧ FF ≤ 16 := by have := Hok.out.2.2; omega
        have CF := full_c A cap s.W s.D s.H s.cells w6 (Hs.out.ext HE6.out)
        rw [hFF] at CF
        clear hFF
        go_wp2_with fail
        refine CF.mono ?_
        rintro e w7 ⟨rfl, E7⟩
        have HE7 := Lib.hid (HE6.out.trans E7)
        have HB7 := Lib.hid (HB6.out.ext E7)
        have HD27 := Lib.hid (HD26.out.ext E7)
        have HD37 := Lib.hid (HD36.out.ext E7)
        have Hown7 := Lib.hid (own_ext Hown6.out E7)
        obtain ⟨W8, hW8, E8, B8, hz8⟩ := box_ w7 #[.int .i64 FF] 3
        obtain ⟨BL, hBL⟩ : ∃ S, w7.heap.size = S := ⟨_, rfl⟩
        have hb7 := HB7.out.lt
        rw [hBL] at B8 hz8
        have HAB := Lib.hid (show BA < BL by omega)
        have HSA := Lib.hid (show S + 1 + 1 < BA by have := HD3.out.lt; have := HBA.out; omega)
        have b8 := (HB7.out.ext E8).cell
        have HB8 := Lib.hid (HB7.out.ext E8)
        have HL8 := Lib.hid B8
        have HE8 := Lib.hid (HE7.out.trans E8)
        have HD28 := Lib.hid (HD27.out.ext E8)
        have HD38 := Lib.hid (HD37.out.ext E8)
        have Hown8 := Lib.hid (own_ext Hown7.out E8)
        have HlA := Lib.hid (show ∀ a, zA = some a → a.block < BL from fun a ha => by
          have h := Hown7.out.lt a.block
          subst ha
          have := h rfl
          omega)
        have CB := back_c zA zn zc W8
        rw [hz8] at CB
        have Hz8 := Lib.hid hz8
        clear E7 E8 B8 b6 d1 hb7 CF hz8
        go_wp2_with fail
        refine CB.mono ?_
        rintro e w9 ⟨rfl, E9, B9, hz9⟩
        clear hW8 b8 hBL CB
        go_wp2_with fail
        have E09 := HE8.out.trans E9
        have HE09 := Lib.hid E09
        have h9 := E09.size
        have hS := HS.out
        refine (wpIn_wide (n := 5)).1 ?_
        refine wpIn_range_upd (n := 5) rfl (by omega) (gf := 81) (lb := #[.pointer (some ⟨BL + 1, 0, none⟩)]) rfl trivial (enters_of Tryd.func81 (by kernel_rfl) rfl)
          (back1_stops _ (by omega) (BL + 1) zA zc (ascL l) (by rw [He2.out]; omega) w9 (by rw [He2.out]; exact B9) (by
            have h := own_any (rows := (ascL l).map fun z => [.int .i64 z]) (show 0 < 1 by decide) (fun r hr => by obtain ⟨z, -, rfl⟩ := List.mem_map.1 hr; rfl) (by rw [List.length_map, He2.out]) (by rw [show ((ascL l).map fun z => [Value.int .i64 z]).flatten = (ascL l).map iv from flat_iv _]; exact own_ext Hown8.out E9)
            unfold Nums
            rw [He2.out]
            exact h))
          (fun _ => ⟨rfl, Nat.le_refl _, fun _ _ => rfl⟩) (fun h k => ⟨k.1.trans h.1, Nat.le_trans h.2.1 k.2.1, fun a ha => (k.2.2 a ha).trans (h.2.2 a ha)⟩)
          (fun W l' o o' hl ho hc hw => ⟨World.putObj_heap_other (by omega), by simp, fun a ha => World.putObj_heap_other (by have := HlA.out a ha; omega)⟩) (Below.refl _ _) (fun _ => rfl)
          (fun (pre : List Nat) X => ((((Blk X BL 3 #[.int .i64 (leftP FF (ascL l) pre)] ∧ Blk X (S + 1) 3 #[.int .i64 0]) ∧ Blk X (S + 1 + 1) 28 #[.int .i64 0]) ∧ Blk X BA 97 #[.slice zA zn zc]) ∧ Ext w X) ∧ ∀ j, j < pre.length → 0 < leftP FF (ascL l) (pre.take (j + 1)))
          (fun c (pre : List Nat) X => ((Blk X (S + 1) 3 #[.int .i64 (wrap64 ((zn : Int) - (pre.getLast?.getD 0 : Nat)))] ∧ Blk X (S + 1 + 1) 28 #[.int .i64 0]) ∧ Ext w X) ∧ c = .ret ∧ ∃ q x, pre = q ++ [x] ∧ (∀ j, j < q.length → 0 < leftP FF (ascL l) (q.take (j + 1))) ∧ leftP FF (ascL l) (q ++ [x]) ≤ 0)
          (OwnFrom.and (OwnFrom.and (OwnFrom.and (OwnFrom.and (OwnFrom.and (Own.from (boxed_own BL _ fun (pre : List Nat) => .int .i64 (leftP FF (ascL l) pre)) _) (Own.from (boxed_own (S + 1) _ fun _ => .int .i64 0) _)) (Own.from (boxed_own (S + 1 + 1) _ fun _ => .int .i64 0) _)) (Own.from (boxed_own BA _ fun _ => .slice zA zn zc) _)) (ownFrom_below (Nat.le_refl _) (by omega))) (ownFrom_pure _ _))
          (fun c => OwnFrom.and (OwnFrom.and (OwnFrom.and (Own.from (boxed_own (S + 1) _ fun (pre : List Nat) => .int .i64 (wrap64 ((zn : Int) - (pre.getLast?.getD 0 : Nat)))) _) (Own.from (boxed_own (S + 1 + 1) _ fun _ => .int .i64 0) _)) (ownFrom_below (Nat.le_refl _) (by omega))) (ownFrom_pure _ _))
          ⟨⟨⟨⟨⟨by rw [leftP_nil]; exact HL8.out.ext E9, HD28.out.ext E9⟩, HD38.out.ext E9⟩, HB8.out.ext E9⟩, E09⟩, fun j hj => absurd hj (Nat.not_lt_zero _)⟩
          (fun x ts => (((ts.setIfInBounds 47 (.int .i64 (x : Int))).setIfInBounds 48 (.int .i64 ((ascL l).getD x 0))).setIfInBounds 12 (.int .i64 (x : Int))).setIfInBounds 13 (.int .i64 ((ascL l).getD x 0))) ?assign ?body ?done ?stop
        case assign =>
          rintro l' x X K hK
          dsimp only [encB]
          gi_wp2
          exact hK
        case body =>
          rintro l' pre x X hl' ⟨⟨⟨⟨⟨C1, C2⟩, C3⟩, C4⟩, hE⟩, hpos⟩ hlen
          have hab := HAB.out
          have hsa := HSA.out
          obtain ⟨z1, z2⟩ := asc_small Hok.out.2.1 x
          have hup := leftP_le (F := FF) (fun y => (asc_small Hok.out.2.1 y).1) pre
          have hlo : 0 < leftP FF (ascL l) pre := by
            rcases Nat.eq_zero_or_pos pre.length with h | h
            · rw [List.eq_nil_of_length_eq_zero h, leftP_nil]
              omega
            · have h2 := hpos (pre.length - 1) (by omega)
              rw [show pre.length - 1 + 1 = pre.length by omega, List.take_length] at h2
              exact h2
          have hsn := leftP_snoc FF (ascL l) pre x
          obtain ⟨lv, hlv⟩ : ∃ v, leftP FF (ascL l) pre = v := ⟨_, rfl⟩
          obtain ⟨z, hz⟩ : ∃ v, (ascL l).getD x 0 = v := ⟨_, rfl⟩
          rw [hlv] at C1 hup hlo hsn
          rw [hz] at z1 z2 hsn ⊢
          have Hsn := Lib.hid hsn
          have Hpos := Lib.hid hpos
          have c1 := C1.cell
          have f1 := C1.frozen
          have c4 := C4.cell
          have c2 := C2.cell
          have f2 := C2.frozen
          have c3 := C3.cell
          have f3 := C3.frozen
          have HC1 := Lib.hid C1
          have HC2 := Lib.hid C2
          have HC3 := Lib.hid C3
          have HC4 := Lib.hid C4
          have HEX := Lib.hid hE
          clear hsn hpos hlv hz C1 C2 C3 C4 hE
          simp only [List.setIfInBounds_toArray, List.set_cons_succ, List.set_cons_zero]
          by_cases hle : lv - z ≤ 0
          · gi_wp2
            have D2 := ((HC2.out.far (p := ⟨BL, 0, none⟩) (by simp only; omega) (.int .i64 (lv - z))).set_ 0 (.int .i64 (wrap64 ((zn : Int) - (x : Int))))).far (p := ⟨S + 1 + 1, 0, none⟩) (by simp only; omega) (.int .i64 0)
            have D3 := ((HC3.out.far (p := ⟨BL, 0, none⟩) (by simp only; omega) (.int .i64 (lv - z))).far (p := ⟨S + 1, 0, none⟩) (by simp only; omega) (.int .i64 (wrap64 ((zn : Int) - (x : Int))))).set_ 0 (.int .i64 0)
            have e : (pre ++ [x]).getLast?.getD 0 = x := by simp
            refine ⟨(((KeepsOthers.setCell X ⟨BL, 0, none⟩ _).trans (KeepsOthers.setCell _ ⟨S + 1, 0, none⟩ _)).trans (KeepsOthers.setCell _ ⟨S + 1 + 1, 0, none⟩ _)).from _, ⟨⟨?_, D3⟩, ((HEX.out.setCell (p := ⟨BL, 0, none⟩) (by simp only; omega) _).setCell (p := ⟨S + 1, 0, none⟩) (by simp only; omega) _).setCell (p := ⟨S + 1 + 1, 0, none⟩) (by simp only; omega) _⟩, rfl, pre, x, rfl, Hpos.out, by rw [Hsn.out]; exact hle⟩
            rw [e]
            exact D2
          · gi_wp2
            refine ⟨(KeepsOthers.setCell X ⟨BL, 0, none⟩ _).from _, ⟨Below.heap_setCell X ⟨BL, 0, none⟩ _ _ (by simp only; omega), by simp [World.setCell], fun a ha => Below.heap_setCell X ⟨BL, 0, none⟩ _ _ (by have := HlA.out a ha; simp only; omega)⟩,
              ⟨⟨⟨⟨by rw [Hsn.out]; exact HC1.out.set_ 0 _, HC2.out.far (p := ⟨BL, 0, none⟩) (by simp only; omega) _⟩, HC3.out.far (p := ⟨BL, 0, none⟩) (by simp only; omega) _⟩, HC4.out.far (p := ⟨BL, 0, none⟩) (by simp only; omega) _⟩, HEX.out.setCell (p := ⟨BL, 0, none⟩) (by simp only; omega) _⟩, fun j hj => ?_⟩
            rcases Nat.lt_or_ge j pre.length with h | h
            · rw [List.take_append_of_le_length (by omega)]
              exact Hpos.out j h
            · rw [List.take_of_length_le (by rw [List.length_append, List.length_singleton]; omega), Hsn.out]
              omega
        case done =>
          rintro D ys X hD rfl ⟨⟨⟨⟨⟨-, C2⟩, C3⟩, -⟩, hE⟩, hpos⟩ hK
          obtain ⟨v1, v2⟩ := least_not Hok.out.1 (least_done (s := s) (l := l) (by rw [HFF.out]; exact hpos))
          have Hv := Lib.hid (show leastI s l = 0 ∧ leastE s l = 6 from ⟨v1, v2⟩)
          have c2 := C2.cell
          have f2 := C2.frozen
          have c3 := C3.cell
          have f3 := C3.frozen
          have HC2 := Lib.hid C2
          have HC3 := Lib.hid C3
          have HEX := Lib.hid hE
          have HK := Lib.hid hK
          have HD := Lib.hid hD
          clear C2 C3 hE hpos v1 v2 hD
          go_wp2_with fail
          have G2 := (HC2.out.set_ 0 (.int .i64 0)).far (p := ⟨S + 1 + 1, 0, none⟩) (by simp only; omega) (.int .i64 6)
          have G3 := (HC3.out.far (p := ⟨S + 1, 0, none⟩) (by simp only; omega) (.int .i64 0)).set_ 0 (.int .i64 6)
          have hK2 := ((KeepsOthers.setCell X ⟨S + 1, 0, none⟩ (.int .i64 0)).trans (KeepsOthers.setCell _ ⟨S + 1 + 1, 0, none⟩ (.int .i64 6))).same D _ HK.out rfl
          have hEX := (HEX.out.setCell (p := ⟨S + 1, 0, none⟩) (by simp only; omega) (.int .i64 0)).setCell (p := ⟨S + 1 + 1, 0, none⟩) (by simp only; omega) (.int .i64 6)
          refine ⟨by simp, .inl ⟨_, _, rfl, run_takeDeferred hK2, ?_⟩⟩
          have F2 : Blk (((X.setCell ⟨S + 1, 0, none⟩ (.int .i64 0)).setCell ⟨S + 1 + 1, 0, none⟩ (.int .i64 6)).putObj D (.deferred none)) (S + 1) 3 #[.int .i64 0] := blk_put G2 hK2 _
          have F3 : Blk (((X.setCell ⟨S + 1, 0, none⟩ (.int .i64 0)).setCell ⟨S + 1 + 1, 0, none⟩ (.int .i64 6)).putObj D (.deferred none)) (S + 1 + 1) 28 #[.int .i64 6] := blk_put G3 hK2 _
          have c2 := F2.cell 0
          have c3 := F3.cell 0
          exact ⟨.tuple #[.int .i64 0, .int .i64 6], by simp [results, Tryd.results12, go_sem, c2, c3], by rw [Hv.out.1, Hv.out.2], Below.trans hEX (belowK_b (w := w) (Nat.le_refl _) _ D _ _ (by have := HD.out; omega) hK2 rfl rfl)⟩
        case stop =>
          rintro D c pre X hD hpre ⟨⟨⟨C2, C3⟩, hE⟩, rfl, q, x, rfl, hq, hq0⟩ hK
          obtain ⟨h1, h2⟩ := least_stop (s := s) (by rw [He2.out]; omega) hpre (by rw [HFF.out]; exact hq) (by rw [HFF.out]; exact hq0)
          obtain ⟨v1, v2⟩ := least_got Hok.out.1 h1
          have Hv := Lib.hid (show leastI s l = ((q.length + 1 : Nat) : Int) ∧ leastE s l = 0 from ⟨v1, v2⟩)
          rw [He2.out] at h2
          rw [show (q ++ [x]).getLast?.getD 0 = x by simp, h2] at C2
          have HC2 := Lib.hid C2
          have HC3 := Lib.hid C3
          have HEX := Lib.hid hE
          have HK := Lib.hid hK
          have HD := Lib.hid hD
          clear C2 C3 hE hq hq0 h1 h2 v1 v2 hD
          gi_wp2
          have G2 := HC2.out
          have G3 := HC3.out
          have hK2 := HK.out
          have hEX := HEX.out
          refine ⟨by simp, .inl ⟨_, _, rfl, run_takeDeferred hK2, ?_⟩⟩
          have F2 : Blk (X.putObj D (.deferred none)) (S + 1) 3 #[.int .i64 ((q.length + 1 : Nat) : Int)] := blk_put G2 hK2 _
          have F3 : Blk (X.putObj D (.deferred none)) (S + 1 + 1) 28 #[.int .i64 0] := blk_put G3 hK2 _
          have c2 := F2.cell 0
          have c3 := F3.cell 0
          exact ⟨.tuple #[.int .i64 ((q.length + 1 : Nat) : Int), .int .i64 0], by simp [results, Tryd.results12, go_sem, c2, c3], by rw [Hv.out.1, Hv.out.2], Below.trans hEX (belowK_b (w := w) (Nat.le_refl _) _ D _ _ (by have := HD.out; omega) hK2 rfl rfl)⟩
  · obtain ⟨v1, v2⟩ := least_ask (s := s) (l := l) (by rw [he]; exact h0)
    have Hv := Lib.hid (show leastI s l = 0 ∧ leastE s l = e0 from ⟨v1, v2.trans he⟩)
    have e1 : (e0 != 0) = true := by simpa using h0
    have e2 : (e0 == 0) = false := by simpa using h0
    have C1 := look_bad s l A cap PA pcap e0 he h0 W3 (hs.ext E) (hl.ext E)
    clear he h0 v1 v2 hs hl E1 E2 E3 B1 B2 B3 B1' B2' E
    go_wp2_with fail
    refine C1.mono ?_
    rintro e w4 ⟨rfl, E4⟩
    have D2 := HB2.out.ext E4
    have D3 := HB3.out.ext E4
    have d2 := D2.cell
    have d3 := D3.cell
    have f2 := D2.frozen
    have f3 := D3.frozen
    have HD2 := Lib.hid D2
    have HD3 := Lib.hid D3
    have HE4 := Lib.hid (HE.out.trans E4)
    clear D2 D3 E4 C1 b1
    go_wp2_with fail
    have hS := HS.out
    have F2 := (HD2.out.set_ 0 (.int .i64 0)).far (p := ⟨S + 1 + 1, 0, none⟩) (by simp only; omega) (.int .i64 e0)
    have F3 := (HD3.out.far (p := ⟨S + 1, 0, none⟩) (by simp only; omega) (.int .i64 0)).set_ 0 (.int .i64 e0)
    have c2 := F2.cell 0
    have c3 := F3.cell 0
    exact ⟨.tuple #[.int .i64 0, .int .i64 e0], by simp [results, Tryd.results12, go_sem, c2, c3], by rw [Hv.out.1, Hv.out.2], (HE4.out.setCell (p := ⟨S + 1, 0, none⟩) (by simp only; omega) _).setCell (p := ⟨S + 1 + 1, 0, none⟩) (by simp only; omega) _⟩
end Go.Proofs.YtaaeapjnjjbglaaDoor
