/- Finding the best composition by calculation. alive: the law's own examples. Contracts of far and what far calls. Contracts of Paint's comparison, slices.MinFunc and slices.Index over hues. slices.Index over hues, at a hue that the list has. slices.MinFunc over hues by the distance to a hue. compose.Paint. lattice: the closures of turners, and turners itself. lattice.turners and lattice.turn. lattice.Turn, for layer 7. -/
import Derived.Test.YtaaeapjnjjbglaaDoorCm19
import Derived.Laws.EntriesVeiled

namespace Go.Proofs.YtaaeapjnjjbglaaDoor
open Go.RowKit

def uPass (ab : List Int) (out : List Nat) (m : Nat) : Nat := (List.range out.length).foldl (fun m k => if condU ab (outAt out k) m = true then m ||| outAt out k else m) m
def uRun (ab : List Int) (out : List Nat) : Nat → Nat → Nat
  | 0, m => m
  | f + 1, m => uRun ab out f (uPass ab out m)
/-- Whether all hang together, found by passes. -/
def hangV (s : Shape) (out : List Nat) : Option Bool :=
  if (List.range out.length).all (fun k => !condU (abv s) (outAt out k) (uRun (abv s) out out.length (outAt out 0))) = true then some (decide (pop (uRun (abv s) out out.length (outAt out 0)) = fullN s.cells)) else none
section
variable {s : Shape} {l : List Plate} {c : List Laid} {out : List Nat}
theorem InU.pass (ha : Apart s l c out) : ∀ (ks : List Nat) (m : Nat), (∀ k ∈ ks, k < c.length) → InU s l c out m → InU s l c out (ks.foldl (fun m k => if condU (abv s) (outAt out k) m = true then m ||| outAt out k else m) m)
  | [], _, _, h => h
  | k :: ks, m, hk, h => by
    rw [List.foldl_cons]
    refine InU.pass ha ks _ (fun j hj => hk j (by simp [hj])) ?_
    split
    · exact (InU.step ha h (hk k (by simp)) (by assumption)).1
    · exact h
theorem InU.run (ha : Apart s l c out) : ∀ (f m : Nat), InU s l c out m → InU s l c out (uRun (abv s) out f m)
  | 0, _, h => h
  | f + 1, _, h => InU.run ha f _ (InU.pass ha _ _ (fun k hk => by rw [← ha.len]; exact List.mem_range.1 hk) h)
theorem hangV_is (ha : Apart s l c out) {b : Bool} (h : hangV s out = some b) : hangB s l c = b := by
  unfold hangV at h
  split at h
  · rename_i hall
    cases h
    refine InU.done ha (InU.run ha _ _ (InU.start ha)) fun k hk => ?_
    have := List.all_eq_true.1 hall k (List.mem_range.2 (by rw [ha.len]; exact hk))
    simpa using this
  · cases h
end
def seeV (s : Shape) (st : Option (Option (List Laid × Nat))) (p : List Laid × List Nat) : Option (Option (List Laid × Nat)) :=
  match st, hangV s p.2 with
  | some st, some b => some (if b = true then (match st with
    | none => some (p.1, weakN s p.2)
    | some q => if p.1.length < q.1.length ∨ p.1.length = q.1.length ∧ weakN s p.2 < q.2 then some (p.1, weakN s p.2) else some q) else st)
  | _, _ => none
theorem seeV_none {s : Shape} : ∀ xs : List (List Laid × List Nat), xs.foldl (seeV s) none = none
  | [] => rfl
  | x :: xs => by
    rw [List.foldl_cons]
    exact seeV_none xs
theorem seeV_is {s : Shape} {l : List Plate} : ∀ (xs : List (List Laid × List Nat)) (st b : Option (List Laid × Nat)), (∀ p ∈ xs, Apart s l p.1 p.2) → xs.foldl (seeV s) (some st) = some b → xs.foldl (fun st p => seeB s l st p.1 p.2) st = b
  | [], st, b, _, h => by
    cases h
    rfl
  | p :: xs, st, b, ha, h => by
    rw [List.foldl_cons] at h ⊢
    cases hv : hangV s p.2 with
    | none =>
      have : seeV s (some st) p = none := by unfold seeV; rw [hv]
      rw [this, seeV_none] at h
      cases h
    | some v =>
      have e : seeV s (some st) p = some (seeB s l st p.1 p.2) := by
        unfold seeV seeB
        rw [hv, hangV_is (ha p (by simp)) hv]
        cases st with
        | none => rfl
        | some q =>
          simp only [better_iff]
      rw [e] at h
      exact seeV_is xs _ b (fun q hq => ha q (by simp [hq])) h
/-- The best one, found by calculation. -/
def bestV (s : Shape) (l : List Plate) : Option (Option (List Laid × Nat)) := (allComps s l).foldl (seeV s) (some none)
theorem all_apart {s : Shape} {l : List Plate} (ok : s.Ok) (okl : platesB l = true) {c : List Laid} {out : List Nat} (h : (c, out) ∈ allComps s l) : Apart s l c out := by
  have hr := (mem_all ok okl).1 h
  have hset := setRun_is hr
  exact apart_of ok okl (comp_pos ok (hset.comp ok rfl)) hset rfl
theorem bestV_is {s : Shape} {l : List Plate} (ok : s.Ok) (okl : platesB l = true) {b : Option (List Laid × Nat)} (h : bestV s l = some b) : bestB s l = b :=
  seeV_is _ _ _ (fun p hp => all_apart ok okl (c := p.1) (out := p.2) hp) h

def fourS : Shape := ⟨2, 1, 2, [3, 3, 3, 3]⟩
def pairS : Shape := ⟨2, 1, 1, [1, 2]⟩
def twoL (a b : Int) : List Plate := [⟨1, 1, a, 0⟩, ⟨1, 2, b, 0⟩]
def four4 : List Laid := [⟨0, 0, 0, 0, false⟩, ⟨0, 1, 0, 0, false⟩, ⟨0, 0, 0, 1, false⟩, ⟨0, 1, 0, 1, false⟩]
def best99 : List Laid := [⟨1, 0, 0, 0, true⟩, ⟨1, 0, 0, 1, true⟩]
def best91 : List Laid := [⟨0, 0, 0, 0, false⟩, ⟨0, 1, 0, 0, false⟩, ⟨1, 0, 0, 1, true⟩]
theorem four_valid : fourS.valid = true := by decide +kernel
theorem pair_valid : pairS.valid = true := by decide +kernel
theorem two99_ok : platesB (twoL 9 9) = true := by decide +kernel
theorem two91_ok : platesB (twoL 9 1) = true := by decide +kernel
theorem four_count : (allComps fourS (twoL 9 9)).length = 4 := by decide +kernel
theorem four_best : bestB fourS (twoL 9 9) = some (best99, 0) := bestV_is (Shape.ok_of four_valid) two99_ok (by kernel_rfl)
theorem four_best1 : bestB fourS (twoL 9 1) = some (best91, 0) := bestV_is (Shape.ok_of four_valid) two91_ok (by kernel_rfl)
theorem pair_best : bestB pairS (twoL 9 9) = none := bestV_is (Shape.ok_of pair_valid) two99_ok (by kernel_rfl)
theorem four_weak : weakR fourS (twoL 9 9) four4 = 1 ∧ compErr fourS (twoL 9 9) four4 = 0 := by decide +kernel
end Go.Proofs.YtaaeapjnjjbglaaDoor

namespace Go.Proofs.YtaaeapjnjjbglaaDoor
open Go.RowKit

theorem four_compose : composeE fourS (twoL 9 9) = 0 ∧ composeL fourS (twoL 9 9) = best99 := by
  have h : askErr fourS (twoL 9 9) = 0 := by decide +kernel
  unfold composeE composeL
  rw [h, four_best]
  exact ⟨rfl, rfl⟩
theorem four_compose1 : composeE fourS (twoL 9 1) = 0 ∧ composeL fourS (twoL 9 1) = best91 := by
  have h : askErr fourS (twoL 9 1) = 0 := by decide +kernel
  unfold composeE composeL
  rw [h, four_best1]
  exact ⟨rfl, rfl⟩
theorem pair_compose : composeE pairS (twoL 9 9) = 6 ∧ composeL pairS (twoL 9 9) = [] := by
  have h : askErr pairS (twoL 9 9) = 0 := by decide +kernel
  unfold composeE composeL
  rw [h, pair_best]
  exact ⟨rfl, rfl⟩
theorem four_countI : countI fourS (twoL 9 9) = 4 ∧ askErr fourS (twoL 9 9) = 0 := by decide +kernel
set_option maxRecDepth 100000 in
set_option maxHeartbeats 8000000 in
theorem alive_c (w : World) (hT : TzTab w) : Calls Tryd.prog 16 #[] w fun e w' => e = .returned (.bool true) ∧ Ext w w' := by
  go_enter Tryd.func16, Tryd.ntmps16
  go_wp2_with fail
  refine (four_c _).mono ?_
  rintro e w1 ⟨g1, rfl, hs1, E1⟩
  go_wp2_with fail
  refine (two_c 9 9 _).mono ?_
  rintro e w2 ⟨p2, rfl, hl2, E2⟩
  go_wp2_with fail
  have E := E1.trans E2
  refine (count_c fourS (some ⟨g1, 0, none⟩) 4 (twoL 9 9) (some ⟨p2, 0, none⟩) 2 _ (hs1.ext E2) hl2 (hT.ext E)).mono ?_
  rintro e w3 ⟨rfl, E3⟩
  rw [four_countI.1, four_countI.2]
  replace E := E.trans E3
  clear E1 E2 E3
  go_wp2_with fail
  refine (four_c _).mono ?_
  rintro e w4 ⟨g4, rfl, hs4, E4⟩
  go_wp2_with fail
  refine (two_c 9 9 _).mono ?_
  rintro e w5 ⟨p5, rfl, hl5, E5⟩
  replace E := (E.trans E4).trans E5
  go_wp2_with fail
  refine (compose_c fourS (some ⟨g4, 0, none⟩) 4 (twoL 9 9) (some ⟨p5, 0, none⟩) 2 _ (hs4.ext E5) hl5 (hT.ext E)).mono ?_
  rintro e w6 ⟨C6, cc6, rfl, hc6, -, E6⟩
  rw [four_compose.2] at hc6
  rw [four_compose.1, four_compose.2, show best99.length = 2 from rfl]
  replace E := E.trans E6
  clear E4 E5 E6 hs1 hl2 hs4 hl5
  go_wp2_with fail
  refine (four_c _).mono ?_
  rintro e w7 ⟨g7, rfl, hs7, E7⟩
  go_wp2_with fail
  refine (two_c 9 1 _).mono ?_
  rintro e w8 ⟨p8, rfl, hl8, E8⟩
  replace E := (E.trans E7).trans E8
  replace hc6 := hc6.ext (E7.trans E8)
  go_wp2_with fail
  refine (compose_c fourS (some ⟨g7, 0, none⟩) 4 (twoL 9 1) (some ⟨p8, 0, none⟩) 2 _ (hs7.ext E8) hl8 (hT.ext E)).mono ?_
  rintro e w9 ⟨C9, cc9, rfl, hc9, -, E9⟩
  rw [four_compose1.2] at hc9
  rw [four_compose1.1, four_compose1.2, show best91.length = 3 from rfl]
  replace E := E.trans E9
  replace hc6 := hc6.ext E9
  clear E7 E8 E9 hs7 hl8
  go_wp2_with fail
  refine (four_c _).mono ?_
  rintro e w10 ⟨g10, rfl, hs10, E10⟩
  go_wp2_with fail
  refine (two_c 9 9 _).mono ?_
  rintro e w11 ⟨p11, rfl, hl11, E11⟩
  replace E := (E.trans E10).trans E11
  replace hc6 := hc6.ext (E10.trans E11)
  replace hc9 := hc9.ext (E10.trans E11)
  replace hs10 := hs10.ext E11
  clear E10 E11
  go_wp2_with fail
  refine (at7_c _ _ _ _ _ _).mono ?_
  rintro e w12 ⟨rfl, E0⟩
  replace E := E.trans E0
  replace hc6 := hc6.ext E0
  replace hc9 := hc9.ext E0
  replace hs10 := hs10.ext E0
  replace hl11 := hl11.ext E0
  clear E0
  go_wp2_with fail
  refine (at7_c _ _ _ _ _ _).mono ?_
  rintro e w13 ⟨rfl, E0⟩
  replace E := E.trans E0
  replace hc6 := hc6.ext E0
  replace hc9 := hc9.ext E0
  replace hs10 := hs10.ext E0
  replace hl11 := hl11.ext E0
  clear E0
  go_wp2_with fail
  refine (at7_c _ _ _ _ _ _).mono ?_
  rintro e w14 ⟨rfl, E0⟩
  replace E := E.trans E0
  replace hc6 := hc6.ext E0
  replace hc9 := hc9.ext E0
  replace hs10 := hs10.ext E0
  replace hl11 := hl11.ext E0
  clear E0
  go_wp2_with fail
  refine (at7_c _ _ _ _ _ _).mono ?_
  rintro e w15 ⟨rfl, E0⟩
  replace E := E.trans E0
  replace hc6 := hc6.ext E0
  replace hc9 := hc9.ext E0
  replace hs10 := hs10.ext E0
  replace hl11 := hl11.ext E0
  clear E0
  have B16 := Blk.new w15 #[.int .i64 0, .int .i64 0, .int .i64 0, .int .i64 0, .bool false, .int .i64 0, .int .i64 1, .int .i64 0, .int .i64 0, .bool false, .int .i64 0, .int .i64 0, .int .i64 0, .int .i64 1, .bool false, .int .i64 0, .int .i64 1, .int .i64 0, .int .i64 1, .bool false] 64
  have E16 := ext_alloc w15 (.cells #[.int .i64 0, .int .i64 0, .int .i64 0, .int .i64 0, .bool false, .int .i64 0, .int .i64 1, .int .i64 0, .int .i64 0, .bool false, .int .i64 0, .int .i64 0, .int .i64 0, .int .i64 1, .bool false, .int .i64 0, .int .i64 1, .int .i64 0, .int .i64 1, .bool false] 64)
  have h16 : Laids _ (some ⟨w15.heap.size, 0, none⟩) 4 four4 := blk_slice B16 rfl (by decide +kernel) rfl (by show 4 ≤ maxLen; decide)
  replace E := E.trans E16
  replace hc6 := hc6.ext E16
  replace hc9 := hc9.ext E16
  go_wp2_with fail
  refine (weakTop_c fourS (some ⟨g10, 0, none⟩) 4 (twoL 9 9) (some ⟨p11, 0, none⟩) 2 four4 (some ⟨w15.heap.size, 0, none⟩) 4 (by decide) _ (hs10.ext E16) (hl11.ext E16) h16 (hT.ext E)).mono ?_
  rintro e w17 ⟨rfl, E17⟩
  rw [four_weak.1, four_weak.2]
  replace E := E.trans E17
  replace hc6 := hc6.ext E17
  replace hc9 := hc9.ext E17
  clear E16 E17 h16 B16 hs10 hl11
  have B17 := Blk.new w17 #[.int .u8 1, .int .u8 2] 5
  have E17 := ext_alloc w17 (.cells #[.int .u8 1, .int .u8 2] 5)
  have hs17 : Bytes _ (some ⟨w17.heap.size, 0, none⟩) 2 [1, 2] := ⟨blk_slice B17 rfl (by simp) rfl (by show 2 ≤ maxLen; decide), fun c hc => by
    simp only [List.mem_cons, List.not_mem_nil, or_false] at hc
    unfold byteOk
    omega⟩
  go_wp2_with fail
  refine (two_c 9 9 _).mono ?_
  rintro e w18 ⟨p18, rfl, hl18, E18⟩
  replace E := (E.trans E17).trans E18
  replace hc6 := hc6.ext (E17.trans E18)
  replace hc9 := hc9.ext (E17.trans E18)
  go_wp2_with fail
  refine (compose_c pairS (some ⟨w17.heap.size, 0, none⟩) 2 (twoL 9 9) (some ⟨p18, 0, none⟩) 2 _ (hs17.ext E18) hl18 (hT.ext E)).mono ?_
  rintro e w19 ⟨C19, cc19, rfl, -, -, E19⟩
  rw [pair_compose.1, pair_compose.2]
  replace E := E.trans E19
  replace hc6 := hc6.ext E19
  replace hc9 := hc9.ext E19
  clear E17 E18 E19 B17 hs17 hl18
  go_wp2_with fail
  refine (at7_c _ _ _ _ _ _).mono ?_
  rintro e w20 ⟨rfl, E0⟩
  replace E := E.trans E0
  replace hc6 := hc6.ext E0
  replace hc9 := hc9.ext E0
  clear E0
  go_wp2_with fail
  refine (at7_c _ _ _ _ _ _).mono ?_
  rintro e w21 ⟨rfl, E0⟩
  replace E := E.trans E0
  replace hc6 := hc6.ext E0
  replace hc9 := hc9.ext E0
  clear E0
  have B22 := Blk.new w21 #[.int .i64 1, .int .i64 0, .int .i64 0, .int .i64 0, .bool true, .int .i64 1, .int .i64 0, .int .i64 0, .int .i64 1, .bool true] 64
  have E22 := ext_alloc w21 (.cells #[.int .i64 1, .int .i64 0, .int .i64 0, .int .i64 0, .bool true, .int .i64 1, .int .i64 0, .int .i64 0, .int .i64 1, .bool true] 64)
  have h22 : Laids _ (some ⟨w21.heap.size, 0, none⟩) 2 best99 := blk_slice B22 rfl (by decide +kernel) rfl (by show 2 ≤ maxLen; decide)
  replace E := E.trans E22
  replace hc6 := hc6.ext E22
  replace hc9 := hc9.ext E22
  go_wp2_with fail
  refine (sameLaid_c C6 (some ⟨w21.heap.size, 0, none⟩) 2 cc6 2 best99 rfl _ hc6 h22).mono ?_
  rintro e w23 ⟨rfl, E23⟩
  replace E := E.trans E23
  replace hc9 := hc9.ext E23
  clear hc6 h22 E22 E23 B22
  go_wp2_with fail
  refine (at7_c _ _ _ _ _ _).mono ?_
  rintro e w24 ⟨rfl, E0⟩
  replace E := E.trans E0
  replace hc9 := hc9.ext E0
  clear E0
  go_wp2_with fail
  refine (at7_c _ _ _ _ _ _).mono ?_
  rintro e w25 ⟨rfl, E0⟩
  replace E := E.trans E0
  replace hc9 := hc9.ext E0
  clear E0
  go_wp2_with fail
  refine (at7_c _ _ _ _ _ _).mono ?_
  rintro e w26 ⟨rfl, E0⟩
  replace E := E.trans E0
  replace hc9 := hc9.ext E0
  clear E0
  have B27 := Blk.new w26 #[.int .i64 0, .int .i64 0, .int .i64 0, .int .i64 0, .bool false, .int .i64 0, .int .i64 1, .int .i64 0, .int .i64 0, .bool false, .int .i64 1, .int .i64 0, .int .i64 0, .int .i64 1, .bool true] 64
  have E27 := ext_alloc w26 (.cells #[.int .i64 0, .int .i64 0, .int .i64 0, .int .i64 0, .bool false, .int .i64 0, .int .i64 1, .int .i64 0, .int .i64 0, .bool false, .int .i64 1, .int .i64 0, .int .i64 0, .int .i64 1, .bool true] 64)
  have h27 : Laids _ (some ⟨w26.heap.size, 0, none⟩) 3 best91 := blk_slice B27 rfl (by decide +kernel) rfl (by show 3 ≤ maxLen; decide)
  replace E := E.trans E27
  replace hc9 := hc9.ext E27
  go_wp2_with fail
  refine (sameLaid_c C9 (some ⟨w26.heap.size, 0, none⟩) 3 cc9 3 best91 rfl _ hc9 h27).mono ?_
  rintro e w28 ⟨rfl, E28⟩
  replace E := E.trans E28
  go_wp2_with fail
  go_ret
  exact ⟨rfl, E⟩
end Go.Proofs.YtaaeapjnjjbglaaDoor

namespace Go.Proofs.YtaaeapjnjjbglaaDoor
open Go.RowKit

/-- The square of a difference. -/
def sqd (x y : Int) : Int := (x - y) * (x - y)
theorem sqd_bd (x y : Int) (hx : 0 ≤ x) (hx' : x ≤ 255) (hy : 0 ≤ y) (hy' : y ≤ 255) : 0 ≤ sqd x y ∧ sqd x y ≤ 65025 := by
  unfold sqd
  have h1 : (x - y).natAbs ≤ 255 := by omega
  have h2 : (x - y).natAbs * (x - y).natAbs ≤ 255 * 255 := Nat.mul_le_mul h1 h1
  have h3 : (((x - y).natAbs * (x - y).natAbs : Nat) : Int) = (x - y) * (x - y) := by
    rw [Int.natCast_mul, Int.natAbs_mul_self']
  omega
theorem sqd_wrap (x y : Int) (hx : 0 ≤ x) (hx' : x ≤ 255) (hy : 0 ≤ y) (hy' : y ≤ 255) : wrap64 ((x - y) * (x - y)) = sqd x y := by
  have := sqd_bd x y hx hx' hy hy'
  exact IntWalk.wrap64_in _ (by unfold sqd at this; omega)

set_option maxHeartbeats 400000 in
theorem sq_c (x y : Int) (w : World) (hx : 0 ≤ x) (hx' : x ≤ 255) (hy : 0 ≤ y) (hy' : y ≤ 255) :
    Calls Tryd.prog 95 #[.int .u8 x, .int .u8 y] w fun e w' => e = .returned (.int .i64 (sqd x y)) ∧ w = w' := by
  go_enter Tryd.func95, Tryd.ntmps95
  go_wp2
  go_ret
  exact ⟨ret_int (sqd_wrap x y hx hx' hy hy'), rfl⟩

/-- A hue. -/
structure Hue where
  r : Int
  g : Int
  b : Int
def Hue.cells (h : Hue) : List Value := [.int .u8 h.r, .int .u8 h.g, .int .u8 h.b]
def Hue.v (h : Hue) : Value := .agg #[.int .u8 h.r, .int .u8 h.g, .int .u8 h.b]
def Hue.ok (h : Hue) : Prop := byteOk h.r ∧ byteOk h.g ∧ byteOk h.b
def farS (a b : Hue) : Int := sqd a.r b.r + sqd a.g b.g + sqd a.b b.b
theorem farS_bd (a b : Hue) (ha : a.ok) (hb : b.ok) : 0 ≤ farS a b ∧ farS a b ≤ 195075 := by
  obtain ⟨⟨a1, a2⟩, ⟨a3, a4⟩, a5, a6⟩ := ha
  obtain ⟨⟨b1, b2⟩, ⟨b3, b4⟩, b5, b6⟩ := hb
  have h1 := sqd_bd a.r b.r a1 a2 b1 b2
  have h2 := sqd_bd a.g b.g a3 a4 b3 b4
  have h3 := sqd_bd a.b b.b a5 a6 b5 b6
  unfold farS
  omega

set_option maxHeartbeats 800000 in
theorem far_c (ar ag ab br bg bb : Int) (ha : Hue.ok ⟨ar, ag, ab⟩) (hb : Hue.ok ⟨br, bg, bb⟩) (w : World) :
    Calls Tryd.prog 60 #[.agg #[.int .u8 ar, .int .u8 ag, .int .u8 ab], .agg #[.int .u8 br, .int .u8 bg, .int .u8 bb]] w fun e w' => e = .returned (.int .i64 (farS ⟨ar, ag, ab⟩ ⟨br, bg, bb⟩)) ∧ Ext w w' := by
  obtain ⟨⟨a1, a2⟩, ⟨a3, a4⟩, a5, a6⟩ := ha
  obtain ⟨⟨b1, b2⟩, ⟨b3, b4⟩, b5, b6⟩ := hb
  dsimp only at *
  have ⟨p1, p2⟩ := sqd_bd ar br a1 a2 b1 b2
  have ⟨p3, p4⟩ := sqd_bd ag bg a3 a4 b3 b4
  have ⟨p5, p6⟩ := sqd_bd ab bb a5 a6 b5 b6
  go_enter Tryd.func60, Tryd.ntmps60
  go_wp2
  go_quiet ((go_at_call 95; exact quiet_left (sq_c _ _ _ (by assumption) (by assumption) (by assumption) (by assumption))))
  go_wp2
  go_ret
  exact ⟨rfl, by apply_rules [Ext.refl, Ext.alloc, Ext.drewN]⟩

end Go.Proofs.YtaaeapjnjjbglaaDoor

namespace Go.Proofs.YtaaeapjnjjbglaaDoor
open Go.RowKit

set_option maxHeartbeats 800000 in
theorem cmp_c (pr pg pb ar ag ab br bg bb : Int) (k : Nat) (hp : Hue.ok ⟨pr, pg, pb⟩) (ha : Hue.ok ⟨ar, ag, ab⟩) (hb : Hue.ok ⟨br, bg, bb⟩) (w : World)
    (h0 : w.cell? ⟨k, 0, none⟩ = some (.int .u8 pr)) (h1 : w.cell? ⟨k, 1, none⟩ = some (.int .u8 pg)) (h2 : w.cell? ⟨k, 2, none⟩ = some (.int .u8 pb)) :
    Calls Tryd.prog 59 #[.agg #[.int .u8 ar, .int .u8 ag, .int .u8 ab], .agg #[.int .u8 br, .int .u8 bg, .int .u8 bb], .pointer (some ⟨k, 0, none⟩)] w fun e w' =>
      e = .returned (.int .i64 (farS ⟨pr, pg, pb⟩ ⟨ar, ag, ab⟩ - farS ⟨pr, pg, pb⟩ ⟨br, bg, bb⟩)) ∧ Ext w w' := by
  have ⟨p1, p2⟩ := farS_bd _ _ hp ha
  have ⟨p3, p4⟩ := farS_bd _ _ hp hb
  obtain ⟨W, hW, E, ba, bb, hz⟩ := boxes2 w #[.int .u8 ar, .int .u8 ag, .int .u8 ab] #[.int .u8 br, .int .u8 bg, .int .u8 bb] 73 73
  have c0 := E.cell h0
  have c1 := E.cell h1
  have c2 := E.cell h2
  go_enter Tryd.func59, Tryd.ntmps59
  go_wp2
  refine wp_region_grow (by kernel_rfl) (by kernel_rfl) ?_
  repeat (go_big_quiet_step ((go_at_call 60; exact quiet_ext (far_c _ _ _ _ _ _ (by assumption) (by assumption) _))))
  refine wpQuiet_nil ?_
  intro _ hw'
  obtain ⟨x, hw''⟩ := hw'
  subst hw''
  go_wp2
  go_ret
  exact ⟨rfl, E.grow _⟩
end Go.Proofs.YtaaeapjnjjbglaaDoor

namespace Go.Proofs.YtaaeapjnjjbglaaDoor
open Go.RowKit

/-- A slice of hues. -/
def Hues (w : World) (A : Option Addr) (cap : Nat) (hs : List Hue) : Prop := SliceIs w A hs.length cap 3 (hs.map Hue.cells) ∧ ∀ h ∈ hs, h.ok
theorem Hues.ext {w w' : World} {A : Option Addr} {cap : Nat} {hs : List Hue} (h : Hues w A cap hs) (e : Ext w w') : Hues w' A cap hs := ⟨h.1.ext e, h.2⟩
def hueAt (hs : List Hue) (k : Nat) : Hue := hs.getD k ⟨0, 0, 0⟩
theorem Hues.at_ {w : World} {A : Option Addr} {cap : Nat} {hs : List Hue} (h : Hues w A cap hs) {k : Nat} (hk : k < hs.length) :
    ∃ b off, A = some ⟨b, off, none⟩ ∧ b < w.heap.size ∧ (hueAt hs k).ok ∧ w.cell? ⟨b, off + k * 3, none⟩ = some (.int .u8 (hueAt hs k).r) ∧
      w.cell? ⟨b, off + k * 3 + 1, none⟩ = some (.int .u8 (hueAt hs k).g) ∧ w.cell? ⟨b, off + k * 3 + 2, none⟩ = some (.int .u8 (hueAt hs k).b) := by
  obtain ⟨b, off, hA, hb, hc⟩ := h.1.cells (by omega)
  have hget : hs[k]? = some (hueAt hs k) := by simp [hueAt, List.getElem?_eq_getElem hk]
  have hr : (hs.map Hue.cells)[k]? = some (hueAt hs k).cells := by rw [List.getElem?_map, hget]; rfl
  exact ⟨b, off, hA, hb, h.2 _ (List.mem_of_getElem? hget), hc k _ hr 0 _ rfl, hc k _ hr 1 _ rfl, hc k _ hr 2 _ rfl⟩
theorem Hue.eq_of {a b : Hue} (h1 : a.r = b.r) (h2 : a.g = b.g) (h3 : a.b = b.b) : a = b := by cases a; cases b; simp_all

def Hue.eqB (a b : Hue) : Bool := a.r == b.r && (a.g == b.g && a.b == b.b)
theorem Hue.eqB_iff {a b : Hue} : a.eqB b = true ↔ a = b := by
  constructor
  · intro h
    simp [Hue.eqB] at h
    exact Hue.eq_of h.1 h.2.1 h.2.2
  · rintro rfl
    simp [Hue.eqB]
theorem hue_eql (a b c d e f : Int) (w : World) : (binOp .eql 73 (.agg #[.int .u8 a, .int .u8 b, .int .u8 c]) (.agg #[.int .u8 d, .int .u8 e, .int .u8 f])).run Tryd.prog w = .ok (.bool (Hue.eqB ⟨a, b, c⟩ ⟨d, e, f⟩)) w := by
  unfold Hue.eqB
  by_cases h1 : a = d <;> by_cases h2 : b = e <;> by_cases h3 : c = f <;> simp [go_sem, h1, h2, h3]

set_option maxHeartbeats 800000 in
theorem hueIndex_c (A : Option Addr) (cap m : Nat) (hs : List Hue) (r g b : Int) (w : World) (hh : Hues w A cap hs) (hm : m < hs.length) (he : hueAt hs m = ⟨r, g, b⟩) (hne : ∀ j, j < m → hueAt hs j ≠ ⟨r, g, b⟩) :
    Calls Tryd.prog 61 #[.slice A hs.length cap, .agg #[.int .u8 r, .int .u8 g, .int .u8 b]] w fun e w' =>
      e = .returned (.int .i64 m) ∧ Ext w w' := by
  have hl : hs.length ≤ 9223372036854775807 := by have := hh.1.le; have := hh.1.small; unfold maxLen at this; omega
  obtain ⟨W, hW, E, ba, hz⟩ := boxes1 w #[.int .u8 r, .int .u8 g, .int .u8 b] 73
  have hhW := hh.ext E
  go_enter Tryd.func61, Tryd.ntmps61
  go_wp2
  go_loopw [8] (fun i wr => ∃ k : Nat, k ≤ m ∧ i = .int .i64 k ∧ ∃ n, wr = W.drewN n) (fun i _ => m + 1 - (intOf i).toNat)
  case atStart => exact ⟨0, Nat.zero_le _, rfl, 0, rfl⟩
  case round =>
    obtain ⟨k, hk, rfl, n, rfl⟩ := hrel
    obtain ⟨b', off, rfl, hb', _, c0, c1, c2⟩ := hhW.at_ (k := k) (by omega)
    have hkl : k < hs.length := by omega
    by_cases hkm : k = m
    · subst hkm
      rw [he] at c0 c1 c2
      dsimp only at c0 c1 c2
      go_wp2
      go_quiet (fail)
      go_wp2
      go_ret
      exact ⟨rfl, by apply_rules [Ext.drewN, Ext.trans E, Ext.refl]⟩
    · have hq : ∀ w, (binOp .eql 73 (.agg #[.int .u8 r, .int .u8 g, .int .u8 b]) (.agg #[.int .u8 (hueAt hs k).r, .int .u8 (hueAt hs k).g, .int .u8 (hueAt hs k).b])).run Tryd.prog w = .ok (.bool false) w := fun w => by
        rw [hue_eql]
        have : Hue.eqB ⟨r, g, b⟩ (hueAt hs k) = false := by
          rw [Bool.eq_false_iff]
          intro h
          exact hne k (by omega) (Hue.eqB_iff.1 h).symm
        rw [show (⟨(hueAt hs k).r, (hueAt hs k).g, (hueAt hs k).b⟩ : Hue) = hueAt hs k from rfl, this]
      go_wp2
      go_quiet (fail)
      go_wp2
      go_roundw
      case rel => exact ⟨k + 1, by omega, by go_num, n + nq, rfl⟩
      case measure => simp [intOf]; omega
end Go.Proofs.YtaaeapjnjjbglaaDoor

namespace Go.Proofs.YtaaeapjnjjbglaaDoor
open Go.RowKit

/-- The index of the first nearest one of the first k hues. -/
def bestTo (p : Hue) (hs : List Hue) : Nat → Nat
  | 0 => 0
  | k + 1 => if farS p (hueAt hs k) < farS p (hueAt hs (bestTo p hs k)) then k else bestTo p hs k
theorem bestTo_one (p : Hue) (hs : List Hue) : bestTo p hs 1 = 0 := by
  simp [bestTo]
theorem bestTo_lt (p : Hue) (hs : List Hue) (k : Nat) (hk : 0 < k) : bestTo p hs k < k := by
  induction k with
  | zero => omega
  | succ k ih =>
    unfold bestTo
    split
    · omega
    · rcases Nat.eq_zero_or_pos k with h | h
      · subst h; simp [bestTo]
      · have := ih h; omega

set_option maxHeartbeats 1600000 in
theorem min_c (A : Option Addr) (cap kp : Nat) (hs : List Hue) (pr pg pb : Int) (w : World) (hp : Hue.ok ⟨pr, pg, pb⟩) (hh : Hues w A cap hs) (hn : 0 < hs.length)
    (h0 : w.cell? ⟨kp, 0, none⟩ = some (.int .u8 pr)) (h1 : w.cell? ⟨kp, 1, none⟩ = some (.int .u8 pg)) (h2 : w.cell? ⟨kp, 2, none⟩ = some (.int .u8 pb)) :
    Calls Tryd.prog 58 #[.slice A hs.length cap, .func (.func 59) #[] #[.pointer (some ⟨kp, 0, none⟩)]] w fun e w' =>
      e = .returned ((hueAt hs (bestTo ⟨pr, pg, pb⟩ hs hs.length)).v) ∧ Ext w w' := by
  have hl : hs.length ≤ 9223372036854775807 := by have := hh.1.le; have := hh.1.small; unfold maxLen at this; omega
  have hn1 : (decide ((hs.length : Int) < 1)) = false := by simp; omega
  obtain ⟨b, off, rfl, hb, hok0, d0, d1, d2⟩ := hh.at_ hn
  simp only [Nat.zero_mul, Nat.add_zero] at d0 d1 d2
  go_enter Tryd.func58, Tryd.ntmps58
  go_wp2
  go_loopw [6] (fun i wr => ∃ k : Nat, 1 ≤ k ∧ k ≤ hs.length ∧ i = .int .i64 k ∧ Ext w wr ∧ Blk wr w.heap.size 73 #[.int .u8 0, .int .u8 0, .int .u8 0] ∧
      Blk wr (w.heap.size + 1) 73 #[.int .u8 (hueAt hs (bestTo ⟨pr, pg, pb⟩ hs k)).r, .int .u8 (hueAt hs (bestTo ⟨pr, pg, pb⟩ hs k)).g, .int .u8 (hueAt hs (bestTo ⟨pr, pg, pb⟩ hs k)).b]) (fun i _ => hs.length - (intOf i).toNat)
  case atStart =>
    refine ⟨1, by omega, by omega, rfl, by apply_rules [Ext.refl, Ext.alloc], (Blk.new _ _ _).alloc _, ?_⟩
    rw [bestTo_one]
    have := Blk.new (w.alloc (.cells #[.int .u8 0, .int .u8 0, .int .u8 0] 73)) #[.int .u8 (hueAt hs 0).r, .int .u8 (hueAt hs 0).g, .int .u8 (hueAt hs 0).b] 73
    rwa [World.size_alloc] at this
  case round =>
    obtain ⟨k, hk1, hk, rfl, E, B4, B5⟩ := hrel
    have hbest := bestTo_lt ⟨pr, pg, pb⟩ hs k (by omega)
    obtain ⟨m, hm⟩ : ∃ m, bestTo ⟨pr, pg, pb⟩ hs k = m := ⟨_, rfl⟩
    have Hm := Lib.hid hm
    rw [hm] at B5 hbest
    clear hm
    have cz := B5.cell
    by_cases hlt : k < hs.length
    · obtain ⟨b2, off2, hA2, _, hokk, c0, c1, c2⟩ := hh.at_ hlt
      cases hA2
      have hokm : (hueAt hs m).ok := by
        obtain ⟨_, _, _, _, h, _⟩ := hh.at_ (k := m) (by omega)
        exact h
      have e0 := E.cell c0
      have e1 := E.cell c1
      have e2 := E.cell c2
      have f0 := E.cell h0
      have f1 := E.cell h1
      have f2 := E.cell h2
      clear c0 c1 c2
      go_wp2
      refine wp_region_grow (by kernel_rfl) (by kernel_rfl) ?_
      repeat (go_big_quiet_step ((go_at_call 59; exact quiet_ext (cmp_c pr pg pb (hueAt hs k).r (hueAt hs k).g (hueAt hs k).b (hueAt hs m).r (hueAt hs m).g (hueAt hs m).b kp hp hokk hokm _ (by simp [go_sem, *]) (by simp [go_sem, *]) (by simp [go_sem, *])))))
      refine wpQuiet_nil ?_
      intro W hW
      have EW : Ext wr W := by
        obtain ⟨x, rfl⟩ := hW
        exact (Ext.refl _).grow x
      clear hW
      have B4W := B4.ext EW
      have B5W := B5.ext EW
      have g0 := EW.cell e0
      have g1 := EW.cell e1
      have g2 := EW.cell e2
      have cW := B5W.cell
      have fW := B5W.frozen
      clear cz e0 e1 e2 f0 f1 f2
      go_wp2
      · go_roundw
        case rel =>
          have hc : farS ⟨pr, pg, pb⟩ (hueAt hs k) - farS ⟨pr, pg, pb⟩ (hueAt hs m) < 0 := by assumption
          have hb1 : bestTo ⟨pr, pg, pb⟩ hs (k + 1) = k := by
            show (if farS ⟨pr, pg, pb⟩ (hueAt hs k) < farS ⟨pr, pg, pb⟩ (hueAt hs (bestTo ⟨pr, pg, pb⟩ hs k)) then k else bestTo ⟨pr, pg, pb⟩ hs k) = k
            rw [Hm.out, if_pos (by omega)]
          refine ⟨k + 1, by omega, by omega, by go_num, (((E.trans EW).setCell (Nat.le_succ _) _).setCell (Nat.le_succ _) _).setCell (Nat.le_succ _) _,
            ((B4W.far (by simp) _).far (by simp) _).far (by simp) _, ?_⟩
          rw [hb1]
          have := ((B5W.set_ 0 (.int .u8 (hueAt hs k).r)).set_ 1 (.int .u8 (hueAt hs k).g)).set_ 2 (.int .u8 (hueAt hs k).b)
          simpa using this
        case measure => simp [intOf]; omega
      · go_roundw
        case rel =>
          have hc : 0 ≤ farS ⟨pr, pg, pb⟩ (hueAt hs k) - farS ⟨pr, pg, pb⟩ (hueAt hs m) := by assumption
          have hb1 : bestTo ⟨pr, pg, pb⟩ hs (k + 1) = m := by
            show (if farS ⟨pr, pg, pb⟩ (hueAt hs k) < farS ⟨pr, pg, pb⟩ (hueAt hs (bestTo ⟨pr, pg, pb⟩ hs k)) then k else bestTo ⟨pr, pg, pb⟩ hs k) = m
            rw [Hm.out, if_neg (by omega)]
          refine ⟨k + 1, by omega, by omega, by go_num, E.trans EW, B4W, ?_⟩
          rw [hb1]
          exact B5W
        case measure => simp [intOf]; omega
    · obtain rfl : hs.length = k := by omega
      have cr := B4.cell
      have fr := B4.frozen
      go_wp2
      refine bodyPost_ret (v := (hueAt hs m).v) ?_ rfl ?_
      · simp [results, Tryd.results58, go_sem, Hue.v, cr]
      · refine ⟨by rw [Hm.out], ((E.setCell (Nat.le_refl _) _).setCell (Nat.le_refl _) _).setCell (Nat.le_refl _) _⟩
end Go.Proofs.YtaaeapjnjjbglaaDoor

namespace Go.Proofs.YtaaeapjnjjbglaaDoor
open Go.RowKit

theorem Tryd.infoU8 : (Tryd.prog.info? 5).map (fun i => (i.zero, i.size, i.bytes)) = some (some (.int .u8 0), 1, 1) := by kernel_rfl

def paintOk (n m : Nat) (wd : Int) : Prop := 1 ≤ wd ∧ wd ≤ 8 ∧ 1 ≤ n ∧ n ≤ 16 ∧ (n : Int) % wd = 0 ∧ (n : Int) / wd ≤ 8 ∧ 1 ≤ m ∧ m ≤ 15
def pcell (pal : List Hue) (p : Hue) : Value := .int .u8 ((bestTo p pal pal.length : Int) + 1)

theorem bestTo_le (p : Hue) (hs : List Hue) (k : Nat) : ∀ j, j < k → farS p (hueAt hs (bestTo p hs k)) ≤ farS p (hueAt hs j) := by
  induction k with
  | zero => intro j hj; omega
  | succ k ih =>
    intro j hj
    unfold bestTo
    split <;> rename_i h
    · rcases Nat.lt_or_ge j k with h1 | h1
      · have := ih j h1; omega
      · have : j = k := by omega
        subst this; omega
    · rcases Nat.lt_or_ge j k with h1 | h1
      · exact ih j h1
      · have : j = k := by omega
        subst this; omega
theorem bestTo_first (p : Hue) (hs : List Hue) (k : Nat) : ∀ j, j < bestTo p hs k → farS p (hueAt hs (bestTo p hs k)) < farS p (hueAt hs j) := by
  induction k with
  | zero => intro j hj; simp [bestTo] at hj
  | succ k ih =>
    intro j hj
    unfold bestTo at hj ⊢
    split at hj <;> rename_i h
    · rw [if_pos h]
      rcases Nat.lt_trichotomy j (bestTo p hs k) with h1 | h1 | h1
      · have := ih j h1; omega
      · subst h1; exact h
      · -- between the old best and k
        have := bestTo_le p hs k j hj
        omega
    · rw [if_neg h]
      exact ih j hj

theorem min_c' (A : Option Addr) (cap kp : Nat) (hs : List Hue) (pr pg pb : Int) (w : World) (hp : Hue.ok ⟨pr, pg, pb⟩) (hh : Hues w A cap hs) (hn : 0 < hs.length)
    (h0 : w.cell? ⟨kp, 0, none⟩ = some (.int .u8 pr)) (h1 : w.cell? ⟨kp, 1, none⟩ = some (.int .u8 pg)) (h2 : w.cell? ⟨kp, 2, none⟩ = some (.int .u8 pb)) :
    Calls Tryd.prog 58 #[.slice A hs.length cap, .func (.func 59) #[] #[.pointer (some ⟨kp, 0, none⟩)]] w fun e w' =>
      ∃ m, Hid (bestTo ⟨pr, pg, pb⟩ hs hs.length = m) ∧ m < hs.length ∧ e = .returned (.agg #[.int .u8 (hueAt hs m).r, .int .u8 (hueAt hs m).g, .int .u8 (hueAt hs m).b]) ∧ Ext w w' :=
  (min_c A cap kp hs pr pg pb w hp hh hn h0 h1 h2).mono fun _ _ ⟨he, hE⟩ => ⟨_, rfl, bestTo_lt _ _ _ hn, he, hE⟩

set_option maxHeartbeats 1600000 in
theorem paint_ok (A B : Option Addr) (ca cb : Nat) (px pal : List Hue) (wd : Int) (w : World) (hx : Hues w A ca px) (hp : Hues w B cb pal) (ok : paintOk px.length pal.length wd) :
    Calls Tryd.prog 29 #[.slice A px.length ca, .slice B pal.length cb, .int .i64 wd] w fun e w' =>
      ∃ v, e = .returned (.tuple #[.agg #[.int .i64 wd, .int .i64 ((px.length : Int) / wd), .int .i64 1, v], .int .i64 0]) ∧ w'.ownsRow w.heap.size 5 1 v px.length (px.map (pcell pal)) ∧ Ext w w' := by
  obtain ⟨o1, o2, o3, o4, o5, o6, o7, o8⟩ := ok
  have i1 : inB 1 8 wd = true := inB_iff.2 ⟨o1, o2⟩
  have i2 : inB 1 16 (px.length : Int) = true := inB_iff.2 ⟨by omega, by omega⟩
  have i3 : inB 1 15 (pal.length : Int) = true := inB_iff.2 ⟨by omega, by omega⟩
  have i4 : ((px.length : Int) % wd != 0) = false := by simp [o5]
  have i5 : decide (8 < (px.length : Int) / wd) = false := by simp; omega
  have q0 : 0 ≤ (px.length : Int) / wd := Int.ediv_nonneg (by omega) (by omega)
  clear o5
  have hmf : ∀ (fn : Fn) (first cap : Array Value) (w : World), (Instr.makeFunc fn first cap).run Tryd.prog w = .ok (.func fn first cap) w := fun _ _ _ _ => rfl
  go_enter Tryd.func29, Tryd.ntmps29
  go_wp2_with (go_at_call 57; refine (from_c _ _ _ _).mono ?_; rintro e w' ⟨rfl, rfl⟩)
  go_loopw [49] (fun i wr => ∃ k : Nat, k ≤ px.length ∧ i = .int .i64 k ∧ Ext w wr ∧ Blk wr w.heap.size 24 #[.int .i64 0, .int .i64 0, .int .i64 0, .slice none 0 0] ∧
      ∃ v, Blk wr (w.heap.size + 1) 24 #[.int .i64 wd, .int .i64 ((px.length : Int) / wd), .int .i64 1, v] ∧ wr.ownsRow (w.heap.size + 2) 5 1 v k ((px.take k).map (pcell pal))) (fun i _ => px.length - (intOf i).toNat)
  case atStart =>
    refine ⟨0, by omega, rfl, by apply_rules [Ext.refl, Ext.alloc], (Blk.new _ _ _).alloc _, .slice none 0 0, ?_, World.ownsRow_nil _ _ _ _⟩
    have := Blk.new (w.alloc (.cells #[.int .i64 0, .int .i64 0, .int .i64 0, .slice none 0 0] 24)) #[.int .i64 wd, .int .i64 ((px.length : Int) / wd), .int .i64 1, .slice none 0 0] 24
    rwa [World.size_alloc] at this
  case round =>
    obtain ⟨k, hk, rfl, E, B0, v, B1, own⟩ := hrel
    have hsz : w.heap.size + 2 ≤ wr.heap.size := by have := B1.lt; omega
    by_cases hlt : k < px.length
    · obtain ⟨b2, off2, rfl, _, hok, c0, c1, c2⟩ := hx.at_ hlt
      have e0 := E.cell c0
      have e1 := E.cell c1
      have e2 := E.cell c2
      clear c0 c1 c2
      obtain ⟨W, hW, EW, ba, hz⟩ := boxes1 wr #[.int .u8 (hueAt px k).r, .int .u8 (hueAt px k).g, .int .u8 (hueAt px k).b] 73
      have ba0 := ba 0
      have ba1 := ba 1
      have ba2 := ba 2
      go_wp2_with (go_at_call 58; refine (min_c' B cb wr.heap.size pal _ _ _ _ hok (hp.ext (E.trans EW)) (by omega) ba0 ba1 ba2).mono ?_; rintro e w1 ⟨m, Hm, hm, rfl, E1⟩)
      obtain ⟨W2, hW2, EW2, bb, hz2⟩ := boxes1 w1 #[.int .u8 (hueAt pal m).r, .int .u8 (hueAt pal m).g, .int .u8 (hueAt pal m).b] 73
      rw [hW2]
      clear hW2 hW
      have E2 : Ext wr W2 := (EW.trans E1).trans EW2
      have B0' := (B0.ext E2).drew
      have B1' := (B1.ext E2).drew
      have own' : W2.drew.ownsRow _ _ _ _ _ _ := (own_ext own E2).drew
      have hp' : Hues W2.drew B cb pal := hp.ext ((E.trans E2).drew)
      have c13 := B1'.cell 3
      have hfirst : ∀ j, j < m → hueAt pal j ≠ hueAt pal m := fun j hj he => by
        have hb : bestTo (hueAt px k) pal pal.length = m := Hm.out
        have h1 := bestTo_first (hueAt px k) pal pal.length j (by rw [hb]; exact hj)
        rw [hb, he] at h1
        omega
      have s1 : IntKind.i64.wrap (1 + (m : Int)) = 1 + (m : Int) := IntWalk.i64_in _ (by omega)
      have s2 : IntKind.u8.wrap (1 + (m : Int)) = 1 + (m : Int) := IntWalk.u8_in _ (by omega)
      have bb0 := bb 0
      have bb1 := bb 1
      have bb2 := bb 2
      obtain ⟨i0, hi, hz0, hz1, hz2⟩ := info_parts Tryd.infoU8
      have hml : k + 1 ≤ maxLen := by unfold maxLen; omega
      go_region_law (first
          | (go_simp; go_at_call 61; refine (hueIndex_c B cb m pal _ _ _ _ hp' hm rfl hfirst).mono ?_; rintro e w3 ⟨rfl, E3⟩; have c13' := E3.cell c13; have own3 := own_ext own' E3; have hsz3 : w.heap.size + 2 ≤ w3.heap.size := Nat.le_trans (Nat.le_trans hsz E2.size) E3.size; have hlt3 : w.heap.size + 1 < w3.heap.size := hsz3; have B1_3 := B1'.ext E3; have B0_3 := B0'.ext E3)
          | (refine step_append_one #[.int .u8 (1 + (m : Int))] rfl (.tmp 57) (.tmp 63) 22 rfl (w.heap.size + 2) 5 5 i0 (.int .u8 0) 1 1 Tryd.underlying22 hi hz0 hz1 hz2 rfl (by decide) v k _ _ rfl own3 rfl rfl (by simp [Value.oneCell']) hml (by omega) hsz3 ?_; intro g4 cap4 w4 own4 hg4; have B1_4 := (B1_3.alloc _).grown hg4 (own_ne own3 (by omega)); have c14 := B1_4.cell 3; have f14 := B1_4.frozen 3; have B0_4 := (B0_3.alloc (.cells #[.int .u8 (1 + (m : Int))] 5)).grown hg4 (own_ne own3 (by omega)); have E4 := (((E.trans E2).drew.trans E3).alloc (.cells #[.int .u8 (1 + (m : Int))] 5)).grown hg4 (fun q hq => by have := (own3.lt q hq).1; omega)))
      all_goals
        go_wp2
        go_roundw
        case rel =>
          refine ⟨k + 1, by omega, by go_num, E4.setCell (Nat.le_succ _) _, B0_4.far (by simp) _, .slice (some ⟨g4, 0, none⟩) (k + 1) cap4, B1_4.set_ 3 _, own_setCell ?_ (Nat.lt_succ_self _) _⟩
          have hpix : px[k]? = some (hueAt px k) := by simp [hueAt, List.getElem?_eq_getElem hlt]
          have hb : bestTo (hueAt px k) pal pal.length = m := Hm.out
          rw [List.take_add_one, hpix, Option.toList_some, List.map_append, List.map_singleton]
          have hc : pcell pal (hueAt px k) = .int .u8 (1 + (m : Int)) := by rw [pcell, hb, Int.add_comm]
          rw [hc]
          exact own4
        case measure => simp [intOf]; omega
    · obtain rfl : px.length = k := by omega
      obtain ⟨g, cap, rfl⟩ := own_form own (by omega)
      have cr0 := B0.cell
      have fr0 := B0.frozen
      have cr1 := B1.cell
      go_wp2
      refine bodyPost_ret (v := .tuple #[.agg #[.int .i64 wd, .int .i64 ((px.length : Int) / wd), .int .i64 1, .slice (some ⟨g, 0, none⟩) px.length cap], .int .i64 0]) ?_ rfl ?_
      · simp [results, Tryd.results29, go_sem, cr0]
      · rw [List.take_length] at own
        exact ⟨_, rfl, own_base (own_setCell (own_setCell (own_setCell (own_setCell own (by show w.heap.size < _; omega) _) (by show w.heap.size < _; omega) _) (by show w.heap.size < _; omega) _) (by show w.heap.size < _; omega) _) (by omega),
          (((E.setCell (Nat.le_refl _) _).setCell (Nat.le_refl _) _).setCell (Nat.le_refl _) _).setCell (Nat.le_refl _) _⟩

set_option maxHeartbeats 1600000 in
theorem paint_bad (A B : Option Addr) (ca cb n m : Nat) (wd : Int) (w : World) (hn : n ≤ 100) (hm : m ≤ 100) (hwd : -9223372036854775808 ≤ wd ∧ wd ≤ 9223372036854775807) (ok : ¬ paintOk n m wd) :
    Calls Tryd.prog 29 #[.slice A n ca, .slice B m cb, .int .i64 wd] w fun e w' =>
      e = .returned (.tuple #[.agg #[.int .i64 0, .int .i64 0, .int .i64 0, .slice none 0 0], .int .i64 2]) ∧ Ext w w' := by
  unfold paintOk at ok
  by_cases h1 : 1 ≤ wd ∧ wd ≤ 8
  case neg =>
    have i1 : inB 1 8 wd = false := inB_not.2 h1
    clear ok hwd
    go_enter Tryd.func29, Tryd.ntmps29
    go_wp2_with (go_at_call 57; refine (from_c _ _ _ _).mono ?_; rintro e w' ⟨rfl, rfl⟩)
    refine bodyPost_ret (v := .tuple #[.agg #[.int .i64 0, .int .i64 0, .int .i64 0, .slice none 0 0], .int .i64 2]) ?_ rfl ⟨rfl, by repeat (first | exact Ext.refl _ | refine Ext.setCell ?_ (Nat.le_refl _) _ | refine Ext.alloc ?_ _)⟩
    simp [results, Tryd.results29, go_sem]
  obtain ⟨o1, o2⟩ := h1
  have i1 : inB 1 8 wd = true := inB_iff.2 ⟨o1, o2⟩
  have q0 : 0 ≤ (n : Int) / wd := Int.ediv_nonneg (by omega) (by omega)
  have q1 : (n : Int) / wd ≤ n := Int.ediv_le_self _ (by omega)
  by_cases h2 : 1 ≤ n ∧ n ≤ 16
  case neg =>
    have i2 : inB 1 16 (n : Int) = false := inB_not.2 (by omega)
    clear ok
    go_enter Tryd.func29, Tryd.ntmps29
    go_wp2_with (go_at_call 57; refine (from_c _ _ _ _).mono ?_; rintro e w' ⟨rfl, rfl⟩)
    refine bodyPost_ret (v := .tuple #[.agg #[.int .i64 0, .int .i64 0, .int .i64 0, .slice none 0 0], .int .i64 2]) ?_ rfl ⟨rfl, by repeat (first | exact Ext.refl _ | refine Ext.setCell ?_ (Nat.le_refl _) _ | refine Ext.alloc ?_ _)⟩
    simp [results, Tryd.results29, go_sem]
  have i2 : inB 1 16 (n : Int) = true := inB_iff.2 (by omega)
  by_cases h3 : (n : Int) % wd = 0
  case neg =>
    have i3 : ((n : Int) % wd != 0) = true := by simp [h3]
    clear ok
    go_enter Tryd.func29, Tryd.ntmps29
    go_wp2_with (go_at_call 57; refine (from_c _ _ _ _).mono ?_; rintro e w' ⟨rfl, rfl⟩)
    refine bodyPost_ret (v := .tuple #[.agg #[.int .i64 0, .int .i64 0, .int .i64 0, .slice none 0 0], .int .i64 2]) ?_ rfl ⟨rfl, by repeat (first | exact Ext.refl _ | refine Ext.setCell ?_ (Nat.le_refl _) _ | refine Ext.alloc ?_ _)⟩
    simp [results, Tryd.results29, go_sem]
  have i3 : ((n : Int) % wd != 0) = false := by simp [h3]
  by_cases h4 : (n : Int) / wd ≤ 8
  case neg =>
    have i4 : decide (8 < (n : Int) / wd) = true := by simp; omega
    clear ok h3
    go_enter Tryd.func29, Tryd.ntmps29
    go_wp2_with (go_at_call 57; refine (from_c _ _ _ _).mono ?_; rintro e w' ⟨rfl, rfl⟩)
    refine bodyPost_ret (v := .tuple #[.agg #[.int .i64 0, .int .i64 0, .int .i64 0, .slice none 0 0], .int .i64 2]) ?_ rfl ⟨rfl, by repeat (first | exact Ext.refl _ | refine Ext.setCell ?_ (Nat.le_refl _) _ | refine Ext.alloc ?_ _)⟩
    simp [results, Tryd.results29, go_sem]
  have i4 : decide (8 < (n : Int) / wd) = false := by simp; omega
  have i5 : inB 1 15 (m : Int) = false := inB_not.2 (fun h => ok ⟨o1, o2, by omega, by omega, h3, h4, by omega, by omega⟩)
  clear ok h3
  · have _ht : True := trivial
    go_enter Tryd.func29, Tryd.ntmps29
    go_wp2_with (go_at_call 57; refine (from_c _ _ _ _).mono ?_; rintro e w' ⟨rfl, rfl⟩)
    refine bodyPost_ret (v := .tuple #[.agg #[.int .i64 0, .int .i64 0, .int .i64 0, .slice none 0 0], .int .i64 2]) ?_ rfl ⟨rfl, by repeat (first | exact Ext.refl _ | refine Ext.setCell ?_ (Nat.le_refl _) _ | refine Ext.alloc ?_ _)⟩
    simp [results, Tryd.results29, go_sem]
end Go.Proofs.YtaaeapjnjjbglaaDoor

namespace Go.Proofs.YtaaeapjnjjbglaaDoor
open Go.RowKit

/-- A coordinate that is not great. -/
def CB (x : Int) : Prop := -1000000 ≤ x ∧ x ≤ 1000000

set_option maxHeartbeats 400000 in
theorem tn1_c (x y z : Int) (w : World) (hz : CB z) :
    Calls Tryd.prog 135 #[.agg #[.int .i64 x, .int .i64 y, .int .i64 z]] w fun e w' => e = .returned (.agg #[.int .i64 x, .int .i64 (-z), .int .i64 y]) ∧ Ext w w' := by
  obtain ⟨z1, z2⟩ := hz
  go_enter Tryd.func135, Tryd.ntmps135
  go_wp2
  exact bodyPost_ret (v := .agg #[.int .i64 x, .int .i64 (-z), .int .i64 y]) (by simp [results, Tryd.results135, go_sem]) rfl ⟨rfl, by apply_rules [Ext.refl, Ext.alloc]⟩

set_option maxHeartbeats 400000 in
theorem tn2_c (x y z : Int) (w : World) :
    Calls Tryd.prog 136 #[.agg #[.int .i64 x, .int .i64 y, .int .i64 z]] w fun e w' => e = .returned (.agg #[.int .i64 x, .int .i64 y, .int .i64 z]) ∧ Ext w w' := by
  go_enter Tryd.func136, Tryd.ntmps136
  go_wp2
  exact bodyPost_ret (v := .agg #[.int .i64 x, .int .i64 y, .int .i64 z]) (by simp [results, Tryd.results136, go_sem]) rfl ⟨rfl, by apply_rules [Ext.refl, Ext.alloc]⟩

set_option maxHeartbeats 400000 in
theorem tn5_c (x y z : Int) (w : World) :
    Calls Tryd.prog 139 #[.agg #[.int .i64 x, .int .i64 y, .int .i64 z]] w fun e w' => e = .returned (.agg #[.int .i64 z, .int .i64 x, .int .i64 y]) ∧ Ext w w' := by
  go_enter Tryd.func139, Tryd.ntmps139
  go_wp2
  exact bodyPost_ret (v := .agg #[.int .i64 z, .int .i64 x, .int .i64 y]) (by simp [results, Tryd.results139, go_sem]) rfl ⟨rfl, by apply_rules [Ext.refl, Ext.alloc]⟩

set_option maxHeartbeats 400000 in
theorem tn6_c (x y z : Int) (w : World) (hx : CB x) (hz : CB z) :
    Calls Tryd.prog 140 #[.agg #[.int .i64 x, .int .i64 y, .int .i64 z]] w fun e w' => e = .returned (.agg #[.int .i64 (-z), .int .i64 (-x), .int .i64 y]) ∧ Ext w w' := by
  obtain ⟨x1, x2⟩ := hx
  obtain ⟨z1, z2⟩ := hz
  go_enter Tryd.func140, Tryd.ntmps140
  go_wp2
  exact bodyPost_ret (v := .agg #[.int .i64 (-z), .int .i64 (-x), .int .i64 y]) (by simp [results, Tryd.results140, go_sem]) rfl ⟨rfl, by apply_rules [Ext.refl, Ext.alloc]⟩

theorem CB.neg {x : Int} (h : CB x) : CB (-x) := by unfold CB at *; omega

set_option maxHeartbeats 800000 in
theorem tn3_c (x y z : Int) (g : Nat) (w : World) (hy : CB y) (hz : CB z) (hg : w.cell? ⟨g, 0, none⟩ = some (.func (.func 135) #[] #[])) :
    Calls Tryd.prog 137 #[.agg #[.int .i64 x, .int .i64 y, .int .i64 z], .pointer (some ⟨g, 0, none⟩)] w fun e w' => e = .returned (.agg #[.int .i64 x, .int .i64 (-y), .int .i64 (-z)]) ∧ Ext w w' := by
  obtain ⟨W, hW, E, ba, bb, hsz⟩ := boxes2 w #[.int .i64 x, .int .i64 y, .int .i64 z] #[.int .i64 0, .int .i64 0, .int .i64 0] 56 56
  have hgW := E.cell hg
  have hz' := hz.neg
  have B3 : Blk W (w.heap.size + 1) 56 #[.int .i64 0, .int .i64 0, .int .i64 0] := by
    rw [← hW]
    have := Blk.new (w.alloc (.cells #[.int .i64 x, .int .i64 y, .int .i64 z] 56)) #[.int .i64 0, .int .i64 0, .int .i64 0] 56
    rwa [World.size_alloc] at this
  go_enter Tryd.func137, Tryd.ntmps137
  go_wp2
  refine wp_region_tail 5 (by kernel_rfl) (by kernel_rfl) ?_
  simp only [List.take_succ_cons, List.take_zero, List.drop_succ_cons, List.drop_zero]
  repeat (go_big_quiet_step ((go_at_call 135; exact quiet_ext (tn1_c _ _ _ _ (by assumption)))))
  refine wpQuiet_nil ?_
  intro W2 hW2
  have E2 : Ext W W2 := by
    obtain ⟨x, rfl⟩ := hW2
    exact (Ext.refl _).grow x
  clear hW2
  have B32 := B3.ext E2
  have cc := B32.cell
  have ff := B32.frozen
  go_wp2
  refine bodyPost_ret (v := .agg #[.int .i64 x, .int .i64 (-y), .int .i64 (-z)]) (by simp [results, Tryd.results137, go_sem, cc]) rfl ⟨rfl, ?_⟩
  exact (((E.trans E2).setCell (Nat.le_succ _) _).setCell (Nat.le_succ _) _).setCell (Nat.le_succ _) _

set_option maxHeartbeats 800000 in
theorem tn4_c (x y z : Int) (g : Nat) (w : World) (hy : CB y) (hz : CB z) (hg : w.cell? ⟨g, 0, none⟩ = some (.func (.func 135) #[] #[])) :
    Calls Tryd.prog 138 #[.agg #[.int .i64 x, .int .i64 y, .int .i64 z], .pointer (some ⟨g, 0, none⟩)] w fun e w' => e = .returned (.agg #[.int .i64 x, .int .i64 z, .int .i64 (-y)]) ∧ Ext w w' := by
  obtain ⟨W, hW, E, ba, bb, hsz⟩ := boxes2 w #[.int .i64 x, .int .i64 y, .int .i64 z] #[.int .i64 0, .int .i64 0, .int .i64 0] 56 56
  have hgW := E.cell hg
  have hz' := hz.neg
  have hy' := hy.neg
  have B3 : Blk W (w.heap.size + 1) 56 #[.int .i64 0, .int .i64 0, .int .i64 0] := by
    rw [← hW]
    have := Blk.new (w.alloc (.cells #[.int .i64 x, .int .i64 y, .int .i64 z] 56)) #[.int .i64 0, .int .i64 0, .int .i64 0] 56
    rwa [World.size_alloc] at this
  go_enter Tryd.func138, Tryd.ntmps138
  go_wp2
  refine wp_region_tail 7 (by kernel_rfl) (by kernel_rfl) ?_
  simp only [List.take_succ_cons, List.take_zero, List.drop_succ_cons, List.drop_zero]
  repeat (go_big_quiet_step ((go_at_call 135; exact quiet_ext (tn1_c _ _ _ _ (by assumption)))))
  refine wpQuiet_nil ?_
  intro W2 hW2
  have E2 : Ext W W2 := by
    obtain ⟨x, rfl⟩ := hW2
    exact (Ext.refl _).grow x
  clear hW2
  have B32 := B3.ext E2
  have cc := B32.cell
  have ff := B32.frozen
  go_wp2
  refine bodyPost_ret (v := .agg #[.int .i64 x, .int .i64 z, .int .i64 (-y)]) (by simp [results, Tryd.results138, go_sem, cc]) rfl ⟨rfl, ?_⟩
  exact (((E.trans E2).setCell (Nat.le_succ _) _).setCell (Nat.le_succ _) _).setCell (Nat.le_succ _) _

end Go.Proofs.YtaaeapjnjjbglaaDoor

namespace Go.Proofs.YtaaeapjnjjbglaaDoor
open Go.RowKit

set_option maxHeartbeats 800000 in
theorem turners_c (w : World) :
    Calls Tryd.prog 121 #[] w fun e w' => ∃ g, e = .returned (.agg #[.func (.func 136) #[] #[], .func (.func 135) #[] #[],
      .func (.func 137) #[] #[.pointer (some ⟨g, 0, none⟩)], .func (.func 138) #[] #[.pointer (some ⟨g, 0, none⟩)],
      .func (.func 139) #[] #[], .func (.func 140) #[] #[]]) ∧ w'.cell? ⟨g, 0, none⟩ = some (.func (.func 135) #[] #[]) ∧ Ext w w' := by
  have hmf : ∀ (fn : Fn) (first cap : Array Value) (w : World), (Instr.makeFunc fn first cap).run Tryd.prog w = .ok (.func fn first cap) w := fun _ _ _ _ => rfl
  go_enter Tryd.func121, Tryd.ntmps121
  go_wp2
  refine bodyPost_ret (v := .agg #[.func (.func 136) #[] #[], .func (.func 135) #[] #[],
      .func (.func 137) #[] #[.pointer (some ⟨w.heap.size + 1, 0, none⟩)], .func (.func 138) #[] #[.pointer (some ⟨w.heap.size + 1, 0, none⟩)],
      .func (.func 139) #[] #[], .func (.func 140) #[] #[]]) (by simp [results, Tryd.results121, go_sem]) rfl ⟨w.heap.size + 1, rfl, ?_, by apply_rules [Ext.refl, Ext.alloc]⟩
  simp [go_sem]

/-- A cell of the lattice. -/
structure Pt where
  x : Int
  y : Int
  z : Int
def Pt.ok (p : Pt) : Prop := CB p.x ∧ CB p.y ∧ CB p.z
def rotZ (p : Pt) : Pt := ⟨-p.y, p.x, p.z⟩
def rotZn (p : Pt) : Nat → Pt
  | 0 => p
  | k + 1 => rotZ (rotZn p k)
/-- What is done to a cell after it was turned about z. -/
def turnQ (p : Pt) (q : Nat) : Pt :=
  match q with
  | 0 => p
  | 1 => ⟨p.x, -p.z, p.y⟩
  | 2 => ⟨p.x, -p.y, -p.z⟩
  | 3 => ⟨p.x, p.z, -p.y⟩
  | 4 => ⟨p.z, p.x, p.y⟩
  | _ => ⟨-p.z, -p.x, p.y⟩
def turnS (p : Pt) (n : Nat) : Pt := turnQ (rotZn p (n % 4)) (n / 4)
theorem rotZn_ok {p : Pt} (h : p.ok) (k : Nat) : (rotZn p k).ok := by
  induction k with
  | zero => exact h
  | succ k ih => exact ⟨ih.2.1.neg, ih.1, ih.2.2⟩
theorem turnQ_ok {p : Pt} (h : p.ok) (q : Nat) : (turnQ p q).ok := by
  obtain ⟨h1, h2, h3⟩ := h
  unfold turnQ
  split
  · exact ⟨h1, h2, h3⟩
  · exact ⟨h1, h3.neg, h2⟩
  · exact ⟨h1, h2.neg, h3.neg⟩
  · exact ⟨h1, h3, h2.neg⟩
  · exact ⟨h3, h1, h2⟩
  · exact ⟨h3.neg, h1.neg, h2⟩
theorem turnS_ok {p : Pt} (h : p.ok) (n : Nat) : (turnS p n).ok := turnQ_ok (rotZn_ok h _) _

set_option maxHeartbeats 3200000 in
theorem turn_c (x y z : Int) (n : Nat) (w : World) (hn : n < 24) (hp : Pt.ok ⟨x, y, z⟩) :
    Calls Tryd.prog 85 #[.agg #[.int .i64 x, .int .i64 y, .int .i64 z], .int .i64 n] w fun e w' =>
      e = .returned (.agg #[.int .i64 (turnS ⟨x, y, z⟩ n).x, .int .i64 (turnS ⟨x, y, z⟩ n).y, .int .i64 (turnS ⟨x, y, z⟩ n).z]) ∧ Ext w w' := by
  go_enter Tryd.func85, Tryd.ntmps85
  go_wp2
  go_loopw [7] (fun i wr => ∃ k : Nat, k ≤ n % 4 ∧ i = .int .i64 k ∧ Ext w wr ∧ Blk wr w.heap.size 56 #[.int .i64 (rotZn ⟨x, y, z⟩ k).x, .int .i64 (rotZn ⟨x, y, z⟩ k).y, .int .i64 (rotZn ⟨x, y, z⟩ k).z] ∧
      Blk wr (w.heap.size + 1) 56 #[.int .i64 0, .int .i64 0, .int .i64 0]) (fun i _ => n % 4 - (intOf i).toNat)
  case atStart =>
    refine ⟨0, by omega, rfl, by apply_rules [Ext.refl, Ext.alloc], (Blk.new _ _ _).alloc _, ?_⟩
    have := Blk.new (w.alloc (.cells #[.int .i64 x, .int .i64 y, .int .i64 z] 56)) #[.int .i64 0, .int .i64 0, .int .i64 0] 56
    rwa [World.size_alloc] at this
  case round =>
    obtain ⟨k, hk, rfl, E, B0, B1⟩ := hrel
    obtain ⟨p, hpk⟩ : ∃ p, rotZn ⟨x, y, z⟩ k = p := ⟨_, rfl⟩
    have hok : p.ok := hpk ▸ rotZn_ok hp k
    rw [hpk] at B0
    have Hp := Lib.hid hpk
    clear hpk
    have hz0 := hok.2.1
    obtain ⟨b1, b2⟩ := hz0
    have c0 := B0.cell
    have f0 := B0.frozen
    have c1 := B1.cell
    by_cases hlt : k < n % 4
    · go_wp2
      go_roundw
      case rel =>
        refine ⟨k + 1, by omega, by go_num, ((E.setCell (Nat.le_refl _) _).setCell (Nat.le_refl _) _).setCell (Nat.le_refl _) _, ?_, ((B1.far (by simp) _).far (by simp) _).far (by simp) _⟩
        have hr : rotZn ⟨x, y, z⟩ (k + 1) = ⟨-p.y, p.x, p.z⟩ := by
          show rotZ (rotZn ⟨x, y, z⟩ k) = _
          rw [Hp.out]
          rfl
        rw [hr]
        have := ((B0.set_ 0 (.int .i64 (-p.y))).set_ 1 (.int .i64 p.x)).set_ 2 (.int .i64 p.z)
        simpa using this
      case measure => simp [intOf]; omega
    · obtain rfl : n % 4 = k := by omega
      have hq6 : n / 4 = 0 ∨ n / 4 = 1 ∨ n / 4 = 2 ∨ n / 4 = 3 ∨ n / 4 = 4 ∨ n / 4 = 5 := by omega
      have Hq6 := Lib.hid hq6
      clear hq6
      go_wp2
      rcases Hq6.out with hq | hq | hq | hq | hq | hq
      · have Hfin := Lib.hid (show turnS ⟨x, y, z⟩ n = ⟨p.x, p.y, p.z⟩ from by unfold turnS; rw [Hp.out, hq]; rfl)
        have hqi : (n : Int) / 4 = 0 := by omega
        have hwq : IntKind.i64.wrap 0 = 0 := by decide
        have hfld : ∀ (w : World), (Instr.field 195 (.agg #[.func (.func 136) #[] #[]]) 0).run Tryd.prog w = .ok (.func (.func 136) #[] #[]) w := fun _ => by kernel_rfl
        have hidx : ∀ (g : Nat) (w : World), (Instr.index 196 (.agg #[.func (.func 136) #[] #[], .func (.func 135) #[] #[], .func (.func 137) #[] #[.pointer (some ⟨g, 0, none⟩)], .func (.func 138) #[] #[.pointer (some ⟨g, 0, none⟩)], .func (.func 139) #[] #[], .func (.func 140) #[] #[]]) (.int .i64 0)).run Tryd.prog w = .ok (.agg #[.func (.func 136) #[] #[]]) w := fun _ _ => by kernel_rfl
        clear hq Hq6
        go_region_law (first
          | (go_simp; go_at_call 121; refine (turners_c _).mono ?_; rintro e w1 ⟨g, rfl, HG, E1⟩; have B01 := B0.drew.ext E1; have B11 := B1.drew.ext E1; have c01 := B01.cell)
          | (go_simp; go_at_call 136; refine (tn2_c p.x p.y p.z _).mono ?_; rintro e w2 ⟨rfl, E2⟩; have B12 := B11.ext E2; have c12 := B12.cell; have f12 := B12.frozen))
        all_goals
          go_wp2
          refine bodyPost_ret (v := .agg #[.int .i64 p.x, .int .i64 p.y, .int .i64 p.z]) (by simp [results, Tryd.results85, go_sem, c12]) rfl ⟨by rw [Hfin.out], ?_⟩
          exact ((((E.drew.trans E1).trans E2).setCell (Nat.le_succ _) _).setCell (Nat.le_succ _) _).setCell (Nat.le_succ _) _
      · have Hfin := Lib.hid (show turnS ⟨x, y, z⟩ n = ⟨p.x, (-p.z), p.y⟩ from by unfold turnS; rw [Hp.out, hq]; rfl)
        have hqi : (n : Int) / 4 = 1 := by omega
        have hwq : IntKind.i64.wrap 1 = 1 := by decide
        have hfld : ∀ (w : World), (Instr.field 195 (.agg #[.func (.func 135) #[] #[]]) 0).run Tryd.prog w = .ok (.func (.func 135) #[] #[]) w := fun _ => by kernel_rfl
        have hidx : ∀ (g : Nat) (w : World), (Instr.index 196 (.agg #[.func (.func 136) #[] #[], .func (.func 135) #[] #[], .func (.func 137) #[] #[.pointer (some ⟨g, 0, none⟩)], .func (.func 138) #[] #[.pointer (some ⟨g, 0, none⟩)], .func (.func 139) #[] #[], .func (.func 140) #[] #[]]) (.int .i64 1)).run Tryd.prog w = .ok (.agg #[.func (.func 135) #[] #[]]) w := fun _ _ => by kernel_rfl
        clear hq Hq6
        go_region_law (first
          | (go_simp; go_at_call 121; refine (turners_c _).mono ?_; rintro e w1 ⟨g, rfl, HG, E1⟩; have B01 := B0.drew.ext E1; have B11 := B1.drew.ext E1; have c01 := B01.cell)
          | (go_simp; go_at_call 135; refine (tn1_c p.x p.y p.z _ hok.2.2).mono ?_; rintro e w2 ⟨rfl, E2⟩; have B12 := B11.ext E2; have c12 := B12.cell; have f12 := B12.frozen))
        all_goals
          go_wp2
          refine bodyPost_ret (v := .agg #[.int .i64 p.x, .int .i64 (-p.z), .int .i64 p.y]) (by simp [results, Tryd.results85, go_sem, c12]) rfl ⟨by rw [Hfin.out], ?_⟩
          exact ((((E.drew.trans E1).trans E2).setCell (Nat.le_succ _) _).setCell (Nat.le_succ _) _).setCell (Nat.le_succ _) _
      · have Hfin := Lib.hid (show turnS ⟨x, y, z⟩ n = ⟨p.x, (-p.y), (-p.z)⟩ from by unfold turnS; rw [Hp.out, hq]; rfl)
        have hqi : (n : Int) / 4 = 2 := by omega
        have hwq : IntKind.i64.wrap 2 = 2 := by decide
        have hfld : ∀ (g : Nat) (w : World), (Instr.field 195 (.agg #[.func (.func 137) #[] #[.pointer (some ⟨g, 0, none⟩)]]) 0).run Tryd.prog w = .ok (.func (.func 137) #[] #[.pointer (some ⟨g, 0, none⟩)]) w := fun _ _ => by kernel_rfl
        have hidx : ∀ (g : Nat) (w : World), (Instr.index 196 (.agg #[.func (.func 136) #[] #[], .func (.func 135) #[] #[], .func (.func 137) #[] #[.pointer (some ⟨g, 0, none⟩)], .func (.func 138) #[] #[.pointer (some ⟨g, 0, none⟩)], .func (.func 139) #[] #[], .func (.func 140) #[] #[]]) (.int .i64 2)).run Tryd.prog w = .ok (.agg #[.func (.func 137) #[] #[.pointer (some ⟨g, 0, none⟩)]]) w := fun _ _ => by kernel_rfl
        clear hq Hq6
        go_region_law (first
          | (go_simp; go_at_call 121; refine (turners_c _).mono ?_; rintro e w1 ⟨g, rfl, HG, E1⟩; have B01 := B0.drew.ext E1; have B11 := B1.drew.ext E1; have c01 := B01.cell)
          | (go_simp; go_at_call 137; refine (tn3_c p.x p.y p.z g _ hok.2.1 hok.2.2 HG).mono ?_; rintro e w2 ⟨rfl, E2⟩; have B12 := B11.ext E2; have c12 := B12.cell; have f12 := B12.frozen))
        all_goals
          go_wp2
          refine bodyPost_ret (v := .agg #[.int .i64 p.x, .int .i64 (-p.y), .int .i64 (-p.z)]) (by simp [results, Tryd.results85, go_sem, c12]) rfl ⟨by rw [Hfin.out], ?_⟩
          exact ((((E.drew.trans E1).trans E2).setCell (Nat.le_succ _) _).setCell (Nat.le_succ _) _).setCell (Nat.le_succ _) _
      · have Hfin := Lib.hid (show turnS ⟨x, y, z⟩ n = ⟨p.x, p.z, (-p.y)⟩ from by unfold turnS; rw [Hp.out, hq]; rfl)
        have hqi : (n : Int) / 4 = 3 := by omega
        have hwq : IntKind.i64.wrap 3 = 3 := by decide
        have hfld : ∀ (g : Nat) (w : World), (Instr.field 195 (.agg #[.func (.func 138) #[] #[.pointer (some ⟨g, 0, none⟩)]]) 0).run Tryd.prog w = .ok (.func (.func 138) #[] #[.pointer (some ⟨g, 0, none⟩)]) w := fun _ _ => by kernel_rfl
        have hidx : ∀ (g : Nat) (w : World), (Instr.index 196 (.agg #[.func (.func 136) #[] #[], .func (.func 135) #[] #[], .func (.func 137) #[] #[.pointer (some ⟨g, 0, none⟩)], .func (.func 138) #[] #[.pointer (some ⟨g, 0, none⟩)], .func (.func 139) #[] #[], .func (.func 140) #[] #[]]) (.int .i64 3)).run Tryd.prog w = .ok (.agg #[.func (.func 138) #[] #[.pointer (some ⟨g, 0, none⟩)]]) w := fun _ _ => by kernel_rfl
        clear hq Hq6
        go_region_law (first
          | (go_simp; go_at_call 121; refine (turners_c _).mono ?_; rintro e w1 ⟨g, rfl, HG, E1⟩; have B01 := B0.drew.ext E1; have B11 := B1.drew.ext E1; have c01 := B01.cell)
          | (go_simp; go_at_call 138; refine (tn4_c p.x p.y p.z g _ hok.2.1 hok.2.2 HG).mono ?_; rintro e w2 ⟨rfl, E2⟩; have B12 := B11.ext E2; have c12 := B12.cell; have f12 := B12.frozen))
        all_goals
          go_wp2
          refine bodyPost_ret (v := .agg #[.int .i64 p.x, .int .i64 p.z, .int .i64 (-p.y)]) (by simp [results, Tryd.results85, go_sem, c12]) rfl ⟨by rw [Hfin.out], ?_⟩
          exact ((((E.drew.trans E1).trans E2).setCell (Nat.le_succ _) _).setCell (Nat.le_succ _) _).setCell (Nat.le_succ _) _
      · have Hfin := Lib.hid (show turnS ⟨x, y, z⟩ n = ⟨p.z, p.x, p.y⟩ from by unfold turnS; rw [Hp.out, hq]; rfl)
        have hqi : (n : Int) / 4 = 4 := by omega
        have hwq : IntKind.i64.wrap 4 = 4 := by decide
        have hfld : ∀ (w : World), (Instr.field 195 (.agg #[.func (.func 139) #[] #[]]) 0).run Tryd.prog w = .ok (.func (.func 139) #[] #[]) w := fun _ => by kernel_rfl
        have hidx : ∀ (g : Nat) (w : World), (Instr.index 196 (.agg #[.func (.func 136) #[] #[], .func (.func 135) #[] #[], .func (.func 137) #[] #[.pointer (some ⟨g, 0, none⟩)], .func (.func 138) #[] #[.pointer (some ⟨g, 0, none⟩)], .func (.func 139) #[] #[], .func (.func 140) #[] #[]]) (.int .i64 4)).run Tryd.prog w = .ok (.agg #[.func (.func 139) #[] #[]]) w := fun _ _ => by kernel_rfl
        clear hq Hq6
        go_region_law (first
          | (go_simp; go_at_call 121; refine (turners_c _).mono ?_; rintro e w1 ⟨g, rfl, HG, E1⟩; have B01 := B0.drew.ext E1; have B11 := B1.drew.ext E1; have c01 := B01.cell)
          | (go_simp; go_at_call 139; refine (tn5_c p.x p.y p.z _).mono ?_; rintro e w2 ⟨rfl, E2⟩; have B12 := B11.ext E2; have c12 := B12.cell; have f12 := B12.frozen))
        all_goals
          go_wp2
          refine bodyPost_ret (v := .agg #[.int .i64 p.z, .int .i64 p.x, .int .i64 p.y]) (by simp [results, Tryd.results85, go_sem, c12]) rfl ⟨by rw [Hfin.out], ?_⟩
          exact ((((E.drew.trans E1).trans E2).setCell (Nat.le_succ _) _).setCell (Nat.le_succ _) _).setCell (Nat.le_succ _) _
      · have Hfin := Lib.hid (show turnS ⟨x, y, z⟩ n = ⟨(-p.z), (-p.x), p.y⟩ from by unfold turnS; rw [Hp.out, hq]; rfl)
        have hqi : (n : Int) / 4 = 5 := by omega
        have hwq : IntKind.i64.wrap 5 = 5 := by decide
        have hfld : ∀ (w : World), (Instr.field 195 (.agg #[.func (.func 140) #[] #[]]) 0).run Tryd.prog w = .ok (.func (.func 140) #[] #[]) w := fun _ => by kernel_rfl
        have hidx : ∀ (g : Nat) (w : World), (Instr.index 196 (.agg #[.func (.func 136) #[] #[], .func (.func 135) #[] #[], .func (.func 137) #[] #[.pointer (some ⟨g, 0, none⟩)], .func (.func 138) #[] #[.pointer (some ⟨g, 0, none⟩)], .func (.func 139) #[] #[], .func (.func 140) #[] #[]]) (.int .i64 5)).run Tryd.prog w = .ok (.agg #[.func (.func 140) #[] #[]]) w := fun _ _ => by kernel_rfl
        clear hq Hq6
        go_region_law (first
          | (go_simp; go_at_call 121; refine (turners_c _).mono ?_; rintro e w1 ⟨g, rfl, HG, E1⟩; have B01 := B0.drew.ext E1; have B11 := B1.drew.ext E1; have c01 := B01.cell)
          | (go_simp; go_at_call 140; refine (tn6_c p.x p.y p.z _ hok.1 hok.2.2).mono ?_; rintro e w2 ⟨rfl, E2⟩; have B12 := B11.ext E2; have c12 := B12.cell; have f12 := B12.frozen))
        all_goals
          go_wp2
          refine bodyPost_ret (v := .agg #[.int .i64 (-p.z), .int .i64 (-p.x), .int .i64 p.y]) (by simp [results, Tryd.results85, go_sem, c12]) rfl ⟨by rw [Hfin.out], ?_⟩
          exact ((((E.drew.trans E1).trans E2).setCell (Nat.le_succ _) _).setCell (Nat.le_succ _) _).setCell (Nat.le_succ _) _
end Go.Proofs.YtaaeapjnjjbglaaDoor

namespace Go.Proofs.YtaaeapjnjjbglaaDoor
open Go.RowKit

/-- A cell's coordinates are in a range. -/
def nearB (p : Pt) (lo hi : Int) : Bool := inB lo hi p.x && (inB lo hi p.y && inB lo hi p.z)
theorem nearB_iff {p : Pt} {lo hi : Int} : nearB p lo hi = true ↔ (lo ≤ p.x ∧ p.x ≤ hi) ∧ (lo ≤ p.y ∧ p.y ≤ hi) ∧ (lo ≤ p.z ∧ p.z ≤ hi) := by
  simp [nearB, inB]
theorem nearB_not {p : Pt} {lo hi : Int} : nearB p lo hi = false ↔ ¬ ((lo ≤ p.x ∧ p.x ≤ hi) ∧ (lo ≤ p.y ∧ p.y ≤ hi) ∧ (lo ≤ p.z ∧ p.z ≤ hi)) := by
  rw [← nearB_iff]; simp

theorem ret_bool {a b : Bool} (h : a = true ↔ b = true) : Ending.returned (.bool a) = .returned (.bool b) := by rw [Bool.eq_iff_iff.2 h]

set_option maxHeartbeats 800000 in
theorem near_c (x y z lo hi : Int) (w : World) :
    Calls Tryd.prog 83 #[.agg #[.int .i64 x, .int .i64 y, .int .i64 z], .int .i64 lo, .int .i64 hi] w fun e w' => e = .returned (.bool (nearB ⟨x, y, z⟩ lo hi)) ∧ Ext w w' := by
  by_cases h1 : lo ≤ min (min x y) z
  · go_enter Tryd.func83, Tryd.ntmps83
    go_wp2
    all_goals
      go_ret
      refine ⟨ret_bool ?_, by apply_rules [Ext.refl, Ext.alloc]⟩
      rw [nearB_iff]
      simp
      omega
  · go_enter Tryd.func83, Tryd.ntmps83
    go_wp2
    all_goals
      go_ret
      refine ⟨ret_bool ?_, by apply_rules [Ext.refl, Ext.alloc]⟩
      rw [nearB_iff]
      simp
      try omega

def allTurn (xs : List Int) : Bool := xs.all fun n => inB 0 23 n
set_option maxHeartbeats 800000 in
theorem isTurn_c (A : Option Addr) (cap : Nat) (xs : List Int) (w : World) (hs : SliceIs w A xs.length cap 1 (xs.map fun n => [.int .i64 n])) :
    Calls Tryd.prog 84 #[.slice A xs.length cap] w fun e w' => e = .returned (.bool (allTurn xs)) ∧ w = w' := by
  have hl : xs.length ≤ 9223372036854775807 := by have := hs.le; have := hs.small; unfold maxLen at this; omega
  go_enter Tryd.func84, Tryd.ntmps84
  go_wp2
  go_loop [7] (fun i => ∃ k : Nat, k ≤ xs.length ∧ i = .int .i64 k ∧ ∀ j, j < k → inB 0 23 (xs.getD j 0) = true) (fun i => xs.length - (intOf i).toNat)
  case atStart => exact ⟨0, by omega, rfl, fun j hj => by omega⟩
  case round =>
    obtain ⟨k, hk, rfl, hj⟩ := hrel
    have Hj := Lib.hid hj
    clear hj
    by_cases hlt : k < xs.length
    · obtain ⟨b, off, rfl, hb, hc⟩ := hs.cells (by omega)
      obtain ⟨n, hn⟩ : ∃ n, xs[k]? = some n := ⟨_, List.getElem?_eq_getElem hlt⟩
      have hc0 := hc k [.int .i64 n] (by rw [List.getElem?_map, hn]; rfl) 0 _ rfl
      have hgd : xs.getD k 0 = n := by simp [hn]
      have Hgd := Lib.hid hgd
      have hmem : n ∈ xs := List.mem_of_getElem? hn
      clear hgd hn hc
      simp only [Nat.mul_one, Nat.add_zero] at hc0
      by_cases h1 : n < 0
      · have ha : allTurn xs = false := by
          rw [allTurn, List.all_eq_false]
          exact ⟨n, hmem, by simp [inB]; omega⟩
        have Ha := Lib.hid ha
        clear ha
        go_wp2
        go_ret
        exact ⟨by rw [Ha.out]; rfl, rfl⟩
      · by_cases h2 : 24 ≤ n
        · have ha : allTurn xs = false := by
            rw [allTurn, List.all_eq_false]
            exact ⟨n, hmem, by simp [inB]; omega⟩
          have Ha := Lib.hid ha
          clear ha
          go_wp2
          go_ret
          exact ⟨by rw [Ha.out]; rfl, rfl⟩
        · go_wp2
          go_round
          case rel =>
            refine ⟨k + 1, by omega, by go_num, fun j hj => ?_⟩
            rcases Nat.lt_or_ge j k with h | h
            · exact Hj.out j h
            · obtain rfl : j = k := by omega
              rw [Hgd.out]
              exact inB_iff.2 ⟨by omega, by omega⟩
          case measure => simp [intOf]; omega
    · obtain rfl : xs.length = k := by omega
      have ha : allTurn xs = true := by
        rw [allTurn, List.all_eq_true]
        intro n hn
        obtain ⟨i, hi⟩ := List.getElem?_of_mem hn
        have hil : i < xs.length := by
          rcases Nat.lt_or_ge i xs.length with h | h
          · exact h
          · rw [List.getElem?_eq_none h] at hi; cases hi
        have := Hj.out i hil
        simpa [hi] using this
      have Ha := Lib.hid ha
      clear ha
      go_wp2
      go_ret
      exact ⟨by rw [Ha.out]; rfl, rfl⟩
/-- One number in a new block, as a list of numbers. -/
theorem ints1 (w : World) (n : Int) (t : TypeId) : SliceIs (w.alloc (.cells #[.int .i64 n] t)) (some ⟨w.heap.size, 0, none⟩) 1 1 1 ([n].map fun n => [.int .i64 n]) := by
  refine ⟨rfl, Nat.le_refl _, by unfold maxLen; omega, by simp, fun _ => ⟨_, 0, rfl, by simp, fun i r hr j u hu => ?_⟩⟩
  have hi : i = 0 := by
    rcases Nat.eq_zero_or_pos i with h | h
    · exact h
    · rw [List.getElem?_eq_none (by simp; omega)] at hr; cases hr
  subst hi
  simp at hr
  subst hr
  have hj : j = 0 := by
    rcases Nat.eq_zero_or_pos j with h | h
    · exact h
    · rw [List.getElem?_eq_none (by simp; omega)] at hu; cases hu
  subst hj
  simp at hu
  subst hu
  rw [cell_new]
  rfl
theorem isTurn1_c (w : World) (n : Int) (t : TypeId) :
    Calls Tryd.prog 84 #[.slice (some ⟨w.heap.size, 0, none⟩) 1 1] (w.alloc (.cells #[.int .i64 n] t)) fun e w' => e = .returned (.bool (inB 0 23 n)) ∧ w.alloc (.cells #[.int .i64 n] t) = w' :=
  (isTurn_c _ 1 [n] _ (ints1 w n t)).mono fun e w' ⟨he, hw⟩ => ⟨by rw [he]; simp [allTurn], hw⟩

def turnOk (p : Pt) (n : Int) : Prop := nearB p (-2000) 2000 = true ∧ 0 ≤ n ∧ n < 24
theorem near_ok {p : Pt} (h : nearB p (-2000) 2000 = true) : p.ok := by
  have := nearB_iff.1 h
  unfold Pt.ok CB
  omega

set_option maxHeartbeats 800000 in
theorem Turn_ok (x y z : Int) (n : Nat) (w : World) (hn : n < 24) (hp : nearB ⟨x, y, z⟩ (-2000) 2000 = true) :
    Calls Tryd.prog 51 #[.agg #[.int .i64 x, .int .i64 y, .int .i64 z], .int .i64 n] w fun e w' =>
      e = .returned (.tuple #[.agg #[.int .i64 (turnS ⟨x, y, z⟩ n).x, .int .i64 (turnS ⟨x, y, z⟩ n).y, .int .i64 (turnS ⟨x, y, z⟩ n).z], .int .i64 0]) ∧ Ext w w' := by
  have hok := near_ok hp
  have hi : inB 0 23 (n : Int) = true := inB_iff.2 (by omega)
  obtain ⟨W, hW, E, ba, bb, hz⟩ := boxes2 w #[.int .i64 x, .int .i64 y, .int .i64 z] #[.int .i64 0, .int .i64 0, .int .i64 0] 56 56
  have B0 : Blk W w.heap.size 56 #[.int .i64 x, .int .i64 y, .int .i64 z] := by rw [← hW]; exact (Blk.new _ _ _).alloc _
  have B1 : Blk W (w.heap.size + 1) 56 #[.int .i64 0, .int .i64 0, .int .i64 0] := by
    rw [← hW]
    have := Blk.new (w.alloc (.cells #[.int .i64 x, .int .i64 y, .int .i64 z] 56)) #[.int .i64 0, .int .i64 0, .int .i64 0] 56
    rwa [World.size_alloc] at this
  go_enter Tryd.func51, Tryd.ntmps51
  go_wp2_with fail
  refine (near_c x y z _ _ _).mono ?_
  rintro e w1 ⟨rfl, E1⟩
  go_wp2_with fail
  refine (isTurn1_c w1 n _).mono ?_
  rintro e w2 ⟨rfl, rfl⟩
  have B02 := (B0.ext E1).alloc (.cells #[.int .i64 n] 3)
  have B12 := (B1.ext E1).alloc (.cells #[.int .i64 n] 3)
  have E2 := (E.trans E1).alloc (.cells #[.int .i64 n] 3)
  have c2 := B02.cell
  obtain ⟨w2, hw2⟩ : ∃ w2, w1.alloc (.cells #[.int .i64 n] 3) = w2 := ⟨_, rfl⟩
  rw [hw2] at B02 B12 E2 c2
  go_wp2_with fail
  refine (turn_c x y z n _ hn hok).mono ?_
  rintro e w3 ⟨rfl, E3⟩
  have B13 := B12.ext E3
  have c3 := B13.cell
  have f3 := B13.frozen
  obtain ⟨q, hq⟩ : ∃ q, turnS ⟨x, y, z⟩ n = q := ⟨_, rfl⟩
  rw [hq]
  have Hq := Lib.hid hq
  clear hq
  go_wp2_with fail
  refine bodyPost_ret (v := .tuple #[.agg #[.int .i64 q.x, .int .i64 q.y, .int .i64 q.z], .int .i64 0]) (by simp [results, Tryd.results51, go_sem, c3]) rfl ⟨by rw [Hq.out], ?_⟩
  exact (((E2.trans E3).setCell (Nat.le_succ _) _).setCell (Nat.le_succ _) _).setCell (Nat.le_succ _) _

end Go.Proofs.YtaaeapjnjjbglaaDoor
