/- Finding the best composition by calculation. Hangs and Weak of the program. alive: the law's own examples. -/
import Derived.Test.YtaaeapjnjjbglaaGreatDoorCd11
import Derived.Test.YtaaeapjnjjbglaaGreatDoorCd32
import Derived.Test.YtaaeapjnjjbglaaGreatDoorCd33
import Derived.Test.YtaaeapjnjjbglaaGreatDoorCd34
import Derived.Test.YtaaeapjnjjbglaaGreatDoorCd37
import Derived.Test.YtaaeapjnjjbglaaGreatDoorCd38
import Derived.Test.YtaaeapjnjjbglaaGreatDoorCd41

namespace Go.Proofs.YtaaeapjnjjbglaaGreatDoor
open Go.RowKit

def uPass (ab : List Int) (out : List Nat) (m : Nat) : Nat := (List.range out.length).foldl (fun m k => if condU ab (outAt out k) m = true then m ||| outAt out k else m) m
def uRun (ab : List Int) (out : List Nat) : Nat → Nat → Nat
  | 0, m => m
  | f + 1, m => uRun ab out f (uPass ab out m)
/-- Whether all hang together, found by passes. -/
def hangV (s : Shape) (out : List Nat) : Option Bool :=
  if (List.range out.length).all (fun k => !condU (abv s) (outAt out k) (uRun (abv s) out out.length (outAt out 0))) = true then some (decide (pop (uRun (abv s) out out.length (outAt out 0)) = fullN s.cells)) else none
section
variable {s : Shape} {l : List Plate} {c : List Laid} {out : List Nat}
theorem InU.pass (ha : Apart s l c out) : ∀ (ks : List Nat) (m : Nat), (∀ k ∈ ks, k < c.length) → InU s l c out m → InU s l c out (ks.foldl (fun m k => if condU (abv s) (outAt out k) m = true then m ||| outAt out k else m) m)
  | [], _, _, h => h
  | k :: ks, m, hk, h => by
    rw [List.foldl_cons]
    refine InU.pass ha ks _ (fun j hj => hk j (by simp [hj])) ?_
    split
    · exact (InU.step ha h (hk k (by simp)) (by assumption)).1
    · exact h
theorem InU.run (ha : Apart s l c out) : ∀ (f m : Nat), InU s l c out m → InU s l c out (uRun (abv s) out f m)
  | 0, _, h => h
  | f + 1, _, h => InU.run ha f _ (InU.pass ha _ _ (fun k hk => by rw [← ha.len]; exact List.mem_range.1 hk) h)
theorem hangV_is (ha : Apart s l c out) {b : Bool} (h : hangV s out = some b) : hangB s l c = b := by
  unfold hangV at h
  split at h
  · rename_i hall
    cases h
    refine InU.done ha (InU.run ha _ _ (InU.start ha)) fun k hk => ?_
    have := List.all_eq_true.1 hall k (List.mem_range.2 (by rw [ha.len]; exact hk))
    simpa using this
  · cases h
end
def seeV (s : Shape) (st : Option (Option (List Laid × Nat))) (p : List Laid × List Nat) : Option (Option (List Laid × Nat)) :=
  match st, hangV s p.2 with
  | some st, some b => some (if b = true then (match st with
    | none => some (p.1, weakN s p.2)
    | some q => if p.1.length < q.1.length ∨ p.1.length = q.1.length ∧ weakN s p.2 < q.2 then some (p.1, weakN s p.2) else some q) else st)
  | _, _ => none
theorem seeV_none {s : Shape} : ∀ xs : List (List Laid × List Nat), xs.foldl (seeV s) none = none
  | [] => rfl
  | x :: xs => by
    rw [List.foldl_cons]
    exact seeV_none xs
theorem seeV_is {s : Shape} {l : List Plate} : ∀ (xs : List (List Laid × List Nat)) (st b : Option (List Laid × Nat)), (∀ p ∈ xs, Apart s l p.1 p.2) → xs.foldl (seeV s) (some st) = some b → xs.foldl (fun st p => seeB s l st p.1 p.2) st = b
  | [], st, b, _, h => by
    cases h
    rfl
  | p :: xs, st, b, ha, h => by
    rw [List.foldl_cons] at h ⊢
    cases hv : hangV s p.2 with
    | none =>
      have : seeV s (some st) p = none := by unfold seeV; rw [hv]
      rw [this, seeV_none] at h
      cases h
    | some v =>
      have e : seeV s (some st) p = some (seeB s l st p.1 p.2) := by
        unfold seeV seeB
        rw [hv, hangV_is (ha p (by simp)) hv]
        cases st with
        | none => rfl
        | some q =>
          simp only [better_iff]
      rw [e] at h
      exact seeV_is xs _ b (fun q hq => ha q (by simp [hq])) h
/-- The best one, found by calculation. -/
def bestV (s : Shape) (l : List Plate) : Option (Option (List Laid × Nat)) := (allComps s l).foldl (seeV s) (some none)
theorem all_apart {s : Shape} {l : List Plate} (ok : s.Ok) (okl : platesB l = true) {c : List Laid} {out : List Nat} (h : (c, out) ∈ allComps s l) : Apart s l c out := by
  have hr := (mem_all ok okl).1 h
  have hset := setRun_is hr
  exact apart_of ok okl (comp_pos ok (hset.comp ok rfl)) hset rfl
theorem bestV_is {s : Shape} {l : List Plate} (ok : s.Ok) (okl : platesB l = true) {b : Option (List Laid × Nat)} (h : bestV s l = some b) : bestB s l = b :=
  seeV_is _ _ _ (fun p hp => all_apart ok okl (c := p.1) (out := p.2) hp) h

def fourS : Shape := ⟨2, 1, 2, [3, 3, 3, 3]⟩
def pairS : Shape := ⟨2, 1, 1, [1, 2]⟩
def twoL (a b : Int) : List Plate := [⟨1, 1, a, 0⟩, ⟨1, 2, b, 0⟩]
def four4 : List Laid := [⟨0, 0, 0, 0, false⟩, ⟨0, 1, 0, 0, false⟩, ⟨0, 0, 0, 1, false⟩, ⟨0, 1, 0, 1, false⟩]
def best99 : List Laid := [⟨1, 0, 0, 0, true⟩, ⟨1, 0, 0, 1, true⟩]
def best91 : List Laid := [⟨0, 0, 0, 0, false⟩, ⟨0, 1, 0, 0, false⟩, ⟨1, 0, 0, 1, true⟩]
theorem four_valid : fourS.valid = true := by decide +kernel
theorem pair_valid : pairS.valid = true := by decide +kernel
theorem two99_ok : platesB (twoL 9 9) = true := by decide +kernel
theorem two91_ok : platesB (twoL 9 1) = true := by decide +kernel
theorem four_count : (allComps fourS (twoL 9 9)).length = 4 := by decide +kernel
theorem four_best : bestB fourS (twoL 9 9) = some (best99, 0) := bestV_is (Shape.ok_of four_valid) two99_ok (by kernel_rfl)
theorem four_best1 : bestB fourS (twoL 9 1) = some (best91, 0) := bestV_is (Shape.ok_of four_valid) two91_ok (by kernel_rfl)
theorem pair_best : bestB pairS (twoL 9 9) = none := bestV_is (Shape.ok_of pair_valid) two99_ok (by kernel_rfl)
theorem four_weak : weakR fourS (twoL 9 9) four4 = 1 ∧ compErr fourS (twoL 9 9) four4 = 0 := by decide +kernel
end Go.Proofs.YtaaeapjnjjbglaaGreatDoor

namespace Go.Proofs.YtaaeapjnjjbglaaGreatDoor
open Go.RowKit

set_option maxRecDepth 100000 in
set_option maxHeartbeats 2000000 in
theorem hangsTop_c (s : Shape) (A : Option Addr) (cap : Nat) (l : List Plate) (PA : Option Addr) (pcap : Nat) (c : List Laid) (CA : Option Addr) (ccap : Nat) (hclen : c.length ≤ 1000) (w : World)
    (hs : Bytes w A cap s.cells) (hl : Plates w PA pcap l) (hcs : Laids w CA ccap c) (hT : TzTab w) :
    Calls Tryz.prog 7 #[.agg #[.int .i64 s.W, .int .i64 s.D, .int .i64 s.H, .slice A s.cells.length cap], .slice PA l.length pcap, .slice CA c.length ccap] w fun e w' =>
      e = .returned (.tuple #[.bool (hangR s l c), .int .i64 (compErr s l c)]) ∧ Ext w w' := by
  obtain ⟨W1, hW1, E1, B1, hz1⟩ := box_ w #[.int .i64 s.W, .int .i64 s.D, .int .i64 s.H, .slice A s.cells.length cap] 24
  have b1 := B1.cell
  obtain ⟨e0, he⟩ : ∃ e0, compErr s l c = e0 := ⟨_, rfl⟩
  have He := Lib.hid he
  by_cases h0 : e0 = 0
  · subst h0
    have h3 : s.valid = true ∧ platesB l = true ∧ compB s l c = true := by
      unfold compErr at he
      split at he
      · split at he
        · split at he
          · exact ⟨by assumption, by assumption, by assumption⟩
          · omega
        · omega
      · omega
    have H3 := Lib.hid h3
    have ok := Shape.ok_of h3.1
    have hpos := comp_pos ok h3.2.2
    clear he h3
    go_enter Tryz.func7, Tryz.ntmps7
    go_wp2_with fail
    refine (sets_ok s A cap l PA pcap c CA ccap H3.out.1 H3.out.2.1 H3.out.2.2 hclen _ (hs.ext E1) (hl.ext E1) (hcs.ext E1)).mono ?_
    rintro e w2 ⟨g, NA, ncap, AA, acap, EA, ec, OA, oc, LA, lc, ms, SA, sc, out, all, rfl, hB, hS, hrun, hall, E2⟩
    have his := setRun_is hrun
    have HA := Lib.hid (apart_of ok H3.out.2.1 hpos his hall)
    have Hw := Lib.hid (weak_eq ok his hall)
    have hol : out.length ≤ 1000 := by rw [his.len]; exact hclen
    have Hsm : Hid (∀ i, i < out.length → outAt out i < 65536) := Lib.hid (fun i hi => HA.out.small (by rw [← HA.out.len]; exact hi))
    clear hrun hall his
    go_wp2_with fail
    refine (hangs_c g s A cap l PA pcap NA ncap AA acap EA ec OA oc LA lc ms c out SA sc HA.out hclen _ hB hS (hT.ext (E1.trans E2))).mono ?_
    rintro e w3 ⟨rfl, E3⟩
    go_wp2_with fail
    go_ret2
    exact ⟨by unfold hangR; rw [He.out, if_pos rfl ] <;> rfl, (E1.trans E2).trans E3⟩
  · have H0 := Lib.hid h0
    have e1 : (e0 != 0) = true := by simpa using h0
    have e2 : (e0 == 0) = false := by simpa using h0
    clear he h0
    go_enter Tryz.func7, Tryz.ntmps7
    go_wp2_with fail
    refine (sets_bad s A cap l PA pcap c CA ccap e0 He.out H0.out hclen _ (hs.ext E1) (hl.ext E1) (hcs.ext E1)).mono ?_
    rintro e w2 ⟨rfl, E2⟩
    go_wp2_with fail
    go_ret2
    exact ⟨by unfold hangR; rw [He.out, if_neg H0.out] <;> rfl, E1.trans E2⟩
set_option maxRecDepth 100000 in
set_option maxHeartbeats 2000000 in
theorem weakTop_c (s : Shape) (A : Option Addr) (cap : Nat) (l : List Plate) (PA : Option Addr) (pcap : Nat) (c : List Laid) (CA : Option Addr) (ccap : Nat) (hclen : c.length ≤ 1000) (w : World)
    (hs : Bytes w A cap s.cells) (hl : Plates w PA pcap l) (hcs : Laids w CA ccap c) (_hT : TzTab w) :
    Calls Tryz.prog 16 #[.agg #[.int .i64 s.W, .int .i64 s.D, .int .i64 s.H, .slice A s.cells.length cap], .slice PA l.length pcap, .slice CA c.length ccap] w fun e w' =>
      e = .returned (.tuple #[.int .i64 (weakR s l c), .int .i64 (compErr s l c)]) ∧ Ext w w' := by
  obtain ⟨W1, hW1, E1, B1, hz1⟩ := box_ w #[.int .i64 s.W, .int .i64 s.D, .int .i64 s.H, .slice A s.cells.length cap] 24
  have b1 := B1.cell
  obtain ⟨e0, he⟩ : ∃ e0, compErr s l c = e0 := ⟨_, rfl⟩
  have He := Lib.hid he
  by_cases h0 : e0 = 0
  · subst h0
    have h3 : s.valid = true ∧ platesB l = true ∧ compB s l c = true := by
      unfold compErr at he
      split at he
      · split at he
        · split at he
          · exact ⟨by assumption, by assumption, by assumption⟩
          · omega
        · omega
      · omega
    have H3 := Lib.hid h3
    have ok := Shape.ok_of h3.1
    have hpos := comp_pos ok h3.2.2
    clear he h3
    go_enter Tryz.func16, Tryz.ntmps16
    go_wp2_with fail
    refine (sets_ok s A cap l PA pcap c CA ccap H3.out.1 H3.out.2.1 H3.out.2.2 hclen _ (hs.ext E1) (hl.ext E1) (hcs.ext E1)).mono ?_
    rintro e w2 ⟨g, NA, ncap, AA, acap, EA, ec, OA, oc, LA, lc, ms, SA, sc, out, all, rfl, hB, hS, hrun, hall, E2⟩
    have his := setRun_is hrun
    have HA := Lib.hid (apart_of ok H3.out.2.1 hpos his hall)
    have Hw := Lib.hid (weak_eq ok his hall)
    have hol : out.length ≤ 1000 := by rw [his.len]; exact hclen
    have Hsm : Hid (∀ i, i < out.length → outAt out i < 65536) := Lib.hid (fun i hi => HA.out.small (by rw [← HA.out.len]; exact hi))
    clear hrun hall his
    go_wp2_with fail
    refine (weak_c g s A cap l PA pcap NA ncap AA acap EA ec OA oc LA lc ms out SA sc ok Hsm.out hol _ hB hS).mono ?_
    rintro e w3 ⟨rfl, E3⟩
    go_wp2_with fail
    go_ret2
    exact ⟨by unfold weakR; rw [He.out, if_pos rfl, ← Hw.out] <;> rfl, (E1.trans E2).trans E3⟩
  · have H0 := Lib.hid h0
    have e1 : (e0 != 0) = true := by simpa using h0
    have e2 : (e0 == 0) = false := by simpa using h0
    clear he h0
    go_enter Tryz.func16, Tryz.ntmps16
    go_wp2_with fail
    refine (sets_bad s A cap l PA pcap c CA ccap e0 He.out H0.out hclen _ (hs.ext E1) (hl.ext E1) (hcs.ext E1)).mono ?_
    rintro e w2 ⟨rfl, E2⟩
    go_wp2_with fail
    go_ret2
    exact ⟨by unfold weakR; rw [He.out, if_neg H0.out] <;> rfl, E1.trans E2⟩
end Go.Proofs.YtaaeapjnjjbglaaGreatDoor

namespace Go.Proofs.YtaaeapjnjjbglaaGreatDoor
open Go.RowKit

theorem four_compose : composeE fourS (twoL 9 9) = 0 ∧ composeL fourS (twoL 9 9) = best99 := by
  have h : askErr fourS (twoL 9 9) = 0 := by decide +kernel
  unfold composeE composeL
  rw [h, four_best]
  exact ⟨rfl, rfl⟩
theorem four_compose1 : composeE fourS (twoL 9 1) = 0 ∧ composeL fourS (twoL 9 1) = best91 := by
  have h : askErr fourS (twoL 9 1) = 0 := by decide +kernel
  unfold composeE composeL
  rw [h, four_best1]
  exact ⟨rfl, rfl⟩
theorem pair_compose : composeE pairS (twoL 9 9) = 6 ∧ composeL pairS (twoL 9 9) = [] := by
  have h : askErr pairS (twoL 9 9) = 0 := by decide +kernel
  unfold composeE composeL
  rw [h, pair_best]
  exact ⟨rfl, rfl⟩
theorem four_countI : countI fourS (twoL 9 9) = 4 ∧ askErr fourS (twoL 9 9) = 0 := by decide +kernel
set_option maxRecDepth 100000 in
set_option maxHeartbeats 8000000 in
theorem alive_c (w : World) (hT : TzTab w) : Calls Tryz.prog 4 #[] w fun e w' => e = .returned (.bool true) ∧ Ext w w' := by
  go_enter Tryz.func4, Tryz.ntmps4
  go_wp2_with fail
  refine (four_c _).mono ?_
  rintro e w1 ⟨g1, rfl, hs1, E1⟩
  go_wp2_with fail
  refine (two_c 9 9 _).mono ?_
  rintro e w2 ⟨p2, rfl, hl2, E2⟩
  go_wp2_with fail
  have E := E1.trans E2
  refine (count_c fourS (some ⟨g1, 0, none⟩) 4 (twoL 9 9) (some ⟨p2, 0, none⟩) 2 _ (hs1.ext E2) hl2 (hT.ext E)).mono ?_
  rintro e w3 ⟨rfl, E3⟩
  rw [four_countI.1, four_countI.2]
  replace E := E.trans E3
  clear E1 E2 E3
  go_wp2_with fail
  refine (four_c _).mono ?_
  rintro e w4 ⟨g4, rfl, hs4, E4⟩
  go_wp2_with fail
  refine (two_c 9 9 _).mono ?_
  rintro e w5 ⟨p5, rfl, hl5, E5⟩
  replace E := (E.trans E4).trans E5
  go_wp2_with fail
  refine (compose_c fourS (some ⟨g4, 0, none⟩) 4 (twoL 9 9) (some ⟨p5, 0, none⟩) 2 _ (hs4.ext E5) hl5 (hT.ext E)).mono ?_
  rintro e w6 ⟨C6, cc6, rfl, hc6, -, E6⟩
  rw [four_compose.2] at hc6
  rw [four_compose.1, four_compose.2, show best99.length = 2 from rfl]
  replace E := E.trans E6
  clear E4 E5 E6 hs1 hl2 hs4 hl5
  go_wp2_with fail
  refine (four_c _).mono ?_
  rintro e w7 ⟨g7, rfl, hs7, E7⟩
  go_wp2_with fail
  refine (two_c 9 1 _).mono ?_
  rintro e w8 ⟨p8, rfl, hl8, E8⟩
  replace E := (E.trans E7).trans E8
  replace hc6 := hc6.ext (E7.trans E8)
  go_wp2_with fail
  refine (compose_c fourS (some ⟨g7, 0, none⟩) 4 (twoL 9 1) (some ⟨p8, 0, none⟩) 2 _ (hs7.ext E8) hl8 (hT.ext E)).mono ?_
  rintro e w9 ⟨C9, cc9, rfl, hc9, -, E9⟩
  rw [four_compose1.2] at hc9
  rw [four_compose1.1, four_compose1.2, show best91.length = 3 from rfl]
  replace E := E.trans E9
  replace hc6 := hc6.ext E9
  clear E7 E8 E9 hs7 hl8
  go_wp2_with fail
  refine (four_c _).mono ?_
  rintro e w10 ⟨g10, rfl, hs10, E10⟩
  go_wp2_with fail
  refine (two_c 9 9 _).mono ?_
  rintro e w11 ⟨p11, rfl, hl11, E11⟩
  replace E := (E.trans E10).trans E11
  replace hc6 := hc6.ext (E10.trans E11)
  replace hc9 := hc9.ext (E10.trans E11)
  replace hs10 := hs10.ext E11
  clear E10 E11
  go_wp2_with fail
  refine (at7_c _ _ _ _ _ _).mono ?_
  rintro e w12 ⟨rfl, E0⟩
  replace E := E.trans E0
  replace hc6 := hc6.ext E0
  replace hc9 := hc9.ext E0
  replace hs10 := hs10.ext E0
  replace hl11 := hl11.ext E0
  clear E0
  go_wp2_with fail
  refine (at7_c _ _ _ _ _ _).mono ?_
  rintro e w13 ⟨rfl, E0⟩
  replace E := E.trans E0
  replace hc6 := hc6.ext E0
  replace hc9 := hc9.ext E0
  replace hs10 := hs10.ext E0
  replace hl11 := hl11.ext E0
  clear E0
  go_wp2_with fail
  refine (at7_c _ _ _ _ _ _).mono ?_
  rintro e w14 ⟨rfl, E0⟩
  replace E := E.trans E0
  replace hc6 := hc6.ext E0
  replace hc9 := hc9.ext E0
  replace hs10 := hs10.ext E0
  replace hl11 := hl11.ext E0
  clear E0
  go_wp2_with fail
  refine (at7_c _ _ _ _ _ _).mono ?_
  rintro e w15 ⟨rfl, E0⟩
  replace E := E.trans E0
  replace hc6 := hc6.ext E0
  replace hc9 := hc9.ext E0
  replace hs10 := hs10.ext E0
  replace hl11 := hl11.ext E0
  clear E0
  have B16 := Blk.new w15 #[.int .i64 0, .int .i64 0, .int .i64 0, .int .i64 0, .bool false, .int .i64 0, .int .i64 1, .int .i64 0, .int .i64 0, .bool false, .int .i64 0, .int .i64 0, .int .i64 0, .int .i64 1, .bool false, .int .i64 0, .int .i64 1, .int .i64 0, .int .i64 1, .bool false] 55
  have E16 := ext_alloc w15 (.cells #[.int .i64 0, .int .i64 0, .int .i64 0, .int .i64 0, .bool false, .int .i64 0, .int .i64 1, .int .i64 0, .int .i64 0, .bool false, .int .i64 0, .int .i64 0, .int .i64 0, .int .i64 1, .bool false, .int .i64 0, .int .i64 1, .int .i64 0, .int .i64 1, .bool false] 55)
  have h16 : Laids _ (some ⟨w15.heap.size, 0, none⟩) 4 four4 := blk_slice B16 rfl (by decide +kernel) rfl (by show 4 ≤ maxLen; decide)
  replace E := E.trans E16
  replace hc6 := hc6.ext E16
  replace hc9 := hc9.ext E16
  go_wp2_with fail
  refine (weakTop_c fourS (some ⟨g10, 0, none⟩) 4 (twoL 9 9) (some ⟨p11, 0, none⟩) 2 four4 (some ⟨w15.heap.size, 0, none⟩) 4 (by decide) _ (hs10.ext E16) (hl11.ext E16) h16 (hT.ext E)).mono ?_
  rintro e w17 ⟨rfl, E17⟩
  rw [four_weak.1, four_weak.2]
  replace E := E.trans E17
  replace hc6 := hc6.ext E17
  replace hc9 := hc9.ext E17
  clear E16 E17 h16 B16 hs10 hl11
  have B17 := Blk.new w17 #[.int .u8 1, .int .u8 2] 5
  have E17 := ext_alloc w17 (.cells #[.int .u8 1, .int .u8 2] 5)
  have hs17 : Bytes _ (some ⟨w17.heap.size, 0, none⟩) 2 [1, 2] := ⟨blk_slice B17 rfl (by simp) rfl (by show 2 ≤ maxLen; decide), fun c hc => by
    simp only [List.mem_cons, List.not_mem_nil, or_false] at hc
    unfold byteOk
    omega⟩
  go_wp2_with fail
  refine (two_c 9 9 _).mono ?_
  rintro e w18 ⟨p18, rfl, hl18, E18⟩
  replace E := (E.trans E17).trans E18
  replace hc6 := hc6.ext (E17.trans E18)
  replace hc9 := hc9.ext (E17.trans E18)
  go_wp2_with fail
  refine (compose_c pairS (some ⟨w17.heap.size, 0, none⟩) 2 (twoL 9 9) (some ⟨p18, 0, none⟩) 2 _ (hs17.ext E18) hl18 (hT.ext E)).mono ?_
  rintro e w19 ⟨C19, cc19, rfl, -, -, E19⟩
  rw [pair_compose.1, pair_compose.2]
  replace E := E.trans E19
  replace hc6 := hc6.ext E19
  replace hc9 := hc9.ext E19
  clear E17 E18 E19 B17 hs17 hl18
  go_wp2_with fail
  refine (at7_c _ _ _ _ _ _).mono ?_
  rintro e w20 ⟨rfl, E0⟩
  replace E := E.trans E0
  replace hc6 := hc6.ext E0
  replace hc9 := hc9.ext E0
  clear E0
  go_wp2_with fail
  refine (at7_c _ _ _ _ _ _).mono ?_
  rintro e w21 ⟨rfl, E0⟩
  replace E := E.trans E0
  replace hc6 := hc6.ext E0
  replace hc9 := hc9.ext E0
  clear E0
  have B22 := Blk.new w21 #[.int .i64 1, .int .i64 0, .int .i64 0, .int .i64 0, .bool true, .int .i64 1, .int .i64 0, .int .i64 0, .int .i64 1, .bool true] 55
  have E22 := ext_alloc w21 (.cells #[.int .i64 1, .int .i64 0, .int .i64 0, .int .i64 0, .bool true, .int .i64 1, .int .i64 0, .int .i64 0, .int .i64 1, .bool true] 55)
  have h22 : Laids _ (some ⟨w21.heap.size, 0, none⟩) 2 best99 := blk_slice B22 rfl (by decide +kernel) rfl (by show 2 ≤ maxLen; decide)
  replace E := E.trans E22
  replace hc6 := hc6.ext E22
  replace hc9 := hc9.ext E22
  go_wp2_with fail
  refine (sameLaid_c C6 (some ⟨w21.heap.size, 0, none⟩) 2 cc6 2 best99 rfl _ hc6 h22).mono ?_
  rintro e w23 ⟨rfl, E23⟩
  replace E := E.trans E23
  replace hc9 := hc9.ext E23
  clear hc6 h22 E22 E23 B22
  go_wp2_with fail
  refine (at7_c _ _ _ _ _ _).mono ?_
  rintro e w24 ⟨rfl, E0⟩
  replace E := E.trans E0
  replace hc9 := hc9.ext E0
  clear E0
  go_wp2_with fail
  refine (at7_c _ _ _ _ _ _).mono ?_
  rintro e w25 ⟨rfl, E0⟩
  replace E := E.trans E0
  replace hc9 := hc9.ext E0
  clear E0
  go_wp2_with fail
  refine (at7_c _ _ _ _ _ _).mono ?_
  rintro e w26 ⟨rfl, E0⟩
  replace E := E.trans E0
  replace hc9 := hc9.ext E0
  clear E0
  have B27 := Blk.new w26 #[.int .i64 0, .int .i64 0, .int .i64 0, .int .i64 0, .bool false, .int .i64 0, .int .i64 1, .int .i64 0, .int .i64 0, .bool false, .int .i64 1, .int .i64 0, .int .i64 0, .int .i64 1, .bool true] 55
  have E27 := ext_alloc w26 (.cells #[.int .i64 0, .int .i64 0, .int .i64 0, .int .i64 0, .bool false, .int .i64 0, .int .i64 1, .int .i64 0, .int .i64 0, .bool false, .int .i64 1, .int .i64 0, .int .i64 0, .int .i64 1, .bool true] 55)
  have h27 : Laids _ (some ⟨w26.heap.size, 0, none⟩) 3 best91 := blk_slice B27 rfl (by decide +kernel) rfl (by show 3 ≤ maxLen; decide)
  replace E := E.trans E27
  replace hc9 := hc9.ext E27
  go_wp2_with fail
  refine (sameLaid_c C9 (some ⟨w26.heap.size, 0, none⟩) 3 cc9 3 best91 rfl _ hc9 h27).mono ?_
  rintro e w28 ⟨rfl, E28⟩
  replace E := E.trans E28
  go_wp2_with fail
  go_ret
  exact ⟨rfl, E⟩
end Go.Proofs.YtaaeapjnjjbglaaGreatDoor
