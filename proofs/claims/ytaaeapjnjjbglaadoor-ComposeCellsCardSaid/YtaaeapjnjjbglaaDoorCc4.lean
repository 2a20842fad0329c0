/- The given statement ComposeCellsCardSaid: for every input the law returns true, and each argument reads behind the call as it did; the listed table is tied to the program's text. No other conditions. -/
import Derived.Test.YtaaeapjnjjbglaaDoorCc3
import Derived.SevenTiedAt

namespace Go.Proofs.YtaaeapjnjjbglaaDoor
open Go.RowKit

/-- The numbers of the cells of a laid plate. -/
def numsL (s : Shape) (l : List Plate) (x : Laid) : List Nat := (List.range (sizeD l x).toNat).flatMap fun (i : Nat) => (List.range (sizeW l x).toNat).map fun (j : Nat) => (s.num (x.x + (j : Int)) (x.y + (i : Int)) x.z).toNat
theorem nums_num {s : Shape} {l : List Plate} {x : Laid} (hl : liesB s l x = true) {i j : Nat} (hi : i < (sizeD l x).toNat) (hj : j < (sizeW l x).toNat) : 0 ≤ s.num (x.x + (j : Int)) (x.y + (i : Int)) x.z ∧ hasB l x (x.x + (j : Int)) (x.y + (i : Int)) x.z = true := by
  have hh : hasB l x (x.x + (j : Int)) (x.y + (i : Int)) x.z = true := by
    rw [hasB_iff]
    omega
  exact ⟨lies_num hl hh, hh⟩
theorem nums_mem {s : Shape} {l : List Plate} {x : Laid} {m : Nat} (ok : s.Ok) (hl : liesB s l x = true) (hm : coverOf s l x = some m) {b : Nat} : b ∈ numsL s l x ↔ m.testBit b = true := by
  unfold numsL
  rw [List.mem_flatMap]
  constructor
  · rintro ⟨i, hi, hb⟩
    obtain ⟨j, hj, e⟩ := List.mem_map.1 hb
    obtain ⟨h0, hh⟩ := nums_num hl (List.mem_range.1 hi) (List.mem_range.1 hj)
    exact (cover_bits ok hm (by omega)).2 hh
  · intro h
    obtain ⟨-, u, v, z, hb⟩ := cover_lt ok hm h
    have hh := (cover_bits ok hm hb).1 h
    rw [hasB_iff] at hh
    obtain ⟨rfl, hx, hy⟩ := hh
    refine ⟨(v - x.y).toNat, List.mem_range.2 (by omega), List.mem_map.2 ⟨(u - x.x).toNat, List.mem_range.2 (by omega), ?_⟩⟩
    rw [show x.x + ((u - x.x).toNat : Int) = u by omega, show x.y + ((v - x.y).toNat : Int) = v by omega, hb]
    rfl
theorem nums_nodup {s : Shape} {l : List Plate} {x : Laid} (ok : s.Ok) (hl : liesB s l x = true) : (numsL s l x).Pairwise (· ≠ ·) := by
  unfold numsL
  have inj : ∀ i j i' j', i < (sizeD l x).toNat → j < (sizeW l x).toNat → i' < (sizeD l x).toNat → j' < (sizeW l x).toNat →
      (s.num (x.x + (j : Int)) (x.y + (i : Int)) x.z).toNat = (s.num (x.x + (j' : Int)) (x.y + (i' : Int)) x.z).toNat → i = i' ∧ j = j' := fun i j i' j' h1 h2 h3 h4 e => by
    have a1 := (nums_num hl h1 h2).1
    have a2 := (nums_num hl h3 h4).1
    obtain ⟨e1, e2, -⟩ := s.num_inj ok a1 (show s.num (x.x + (j : Int)) (x.y + (i : Int)) x.z = s.num (x.x + (j' : Int)) (x.y + (i' : Int)) x.z by omega)
    omega
  rw [List.pairwise_flatMap]
  constructor
  · intro i hi
    rw [List.pairwise_map]
    refine List.Pairwise.imp_of_mem ?_ List.pairwise_lt_range
    intro j j' hj hj' hlt e
    have := (inj i j i j' (List.mem_range.1 hi) (List.mem_range.1 hj) (List.mem_range.1 hi) (List.mem_range.1 hj') e).2
    omega
  · refine List.Pairwise.imp_of_mem ?_ List.pairwise_lt_range
    intro i i' hi hi' hlt a ha b hb e
    obtain ⟨j, hj, rfl⟩ := List.mem_map.1 ha
    obtain ⟨j', hj', rfl⟩ := List.mem_map.1 hb
    have := (inj i j i' j' (List.mem_range.1 hi) (List.mem_range.1 hj) (List.mem_range.1 hi') (List.mem_range.1 hj') e).1
    omega
theorem nums_len (s : Shape) (l : List Plate) (x : Laid) : (numsL s l x).length = (sizeD l x).toNat * (sizeW l x).toNat := by
  unfold numsL
  rw [List.length_flatMap]
  simp only [List.length_map, List.length_range]
  rw [List.map_const', List.sum_replicate_nat, List.length_range]
theorem laid_area {l : List Plate} (okl : platesB l = true) {x : Laid} (hp : 0 ≤ x.plate ∧ x.plate < l.length) : (((sizeD l x).toNat * (sizeW l x).toNat : Nat) : Int) = areaI (plateAt l x.plate.toNat) := by
  have hget : l[x.plate.toNat]? = some (plateAt l x.plate.toNat) := by
    have hlt : x.plate.toNat < l.length := by omega
    have := List.getElem?_eq_getElem hlt
    rw [this, plateAt_eq this]
  have okp := plate_ok okl hget
  have h1 := okp.w
  have h2 := okp.d
  unfold sizeW sizeD areaI
  rw [Int.natCast_mul]
  split
  · rw [Int.toNat_of_nonneg (by omega), Int.toNat_of_nonneg (by omega)]
  · rw [Int.toNat_of_nonneg (by omega), Int.toNat_of_nonneg (by omega), Int.mul_comm]
def areasC (l : List Plate) (c : List Laid) : List Int := c.map fun x => areaI (plateAt l x.plate.toNat)
theorem sum_cast (f : Nat → Nat) : ∀ q : List Nat, (((q.map f).sum : Nat) : Int) = (q.map fun k => (f k : Int)).sum
  | [] => rfl
  | k :: q => by
    rw [List.map_cons, List.map_cons, List.sum_cons, List.sum_cons, ← sum_cast f q]
    omega
/-- The plates of a composition come to just the full cells. -/
theorem comp_area {s : Shape} {l : List Plate} {c : List Laid} (ok : s.Ok) (okl : platesB l = true) (h : compB s l c = true) : (areasC l c).sum = fullN s.cells := by
  rw [← set_comp ok] at h
  unfold setB at h
  split at h
  · cases h
  · rename_i st hst
    obtain ⟨out, all⟩ := st
    have hall : all = 2 ^ fullN s.cells - 1 := by simpa using h
    have his := setRun_is hst
    have hlies : ∀ k, k < c.length → liesB s l (laidAt c k) = true := fun k hk => his.lies hk
    -- all numbers, plate by plate
    have nd : ((List.range c.length).flatMap fun k => numsL s l (laidAt c k)).Pairwise (· ≠ ·) := by
      rw [List.pairwise_flatMap]
      constructor
      · intro k hk
        exact nums_nodup ok (hlies k (List.mem_range.1 hk))
      · refine List.Pairwise.imp_of_mem ?_ List.pairwise_lt_range
        intro k k' hk hk' hlt a ha b hb e
        subst e
        have hk := List.mem_range.1 hk
        have hk' := List.mem_range.1 hk'
        exact his.apart k k' hlt hk' a ((nums_mem ok (hlies k hk) (his.cover k hk)).1 ha) ((nums_mem ok (hlies k' hk') (his.cover k' hk')).1 hb)
    have pm : ((List.range c.length).flatMap fun k => numsL s l (laidAt c k)).Perm (List.range (fullN s.cells)) := by
      rw [List.perm_ext_iff_of_nodup nd List.nodup_range]
      intro b
      rw [List.mem_range, List.mem_flatMap]
      constructor
      · rintro ⟨k, hk, hb⟩
        have hk := List.mem_range.1 hk
        exact (cover_lt ok (his.cover k hk) ((nums_mem ok (hlies k hk) (his.cover k hk)).1 hb)).1
      · intro hb
        have : all.testBit b = true := by
          rw [hall, Nat.testBit_two_pow_sub_one]
          simpa using hb
        obtain ⟨k, hk, e⟩ := (his.bits b).1 this
        exact ⟨k, List.mem_range.2 hk, (nums_mem ok (hlies k hk) (his.cover k hk)).2 e⟩
    have hl := pm.length_eq
    rw [List.length_range, List.length_flatMap] at hl
    rw [← hl, sum_cast]
    have e : areasC l c = (List.range c.length).map fun k => areaI (plateAt l (laidAt c k).plate.toNat) := by
      unfold areasC
      apply List.ext_getElem (by simp)
      intro k h1 h2
      have hk : k < c.length := by simpa using h1
      simp only [List.getElem_map, List.getElem_range]
      rw [laidAt_eq (List.getElem?_eq_getElem hk)]
    rw [e]
    congr 1
    apply List.map_congr_left
    intro k hk
    rw [nums_len, laid_area okl (cover_plate (his.cover k (List.mem_range.1 hk)))]
/-- A composition's plates are some of those there are. -/
theorem comp_sub {s : Shape} {l : List Plate} {c : List Laid} (ok : s.Ok) (okl : platesB l = true) (h : compB s l c = true) : ∃ r, (areasL l).Perm (areasC l c ++ r) := by
  rw [← set_comp ok] at h
  unfold setB at h
  split at h
  · cases h
  · rename_i st hst
    obtain ⟨out, all⟩ := st
    have his := setRun_is hst
    have hin : ∀ x ∈ c, 0 ≤ x.plate ∧ x.plate < l.length := fun x hx => by
      obtain ⟨k, hk⟩ := List.getElem?_of_mem hx
      have hlt : k < c.length := (List.getElem?_eq_some_iff.1 hk).1
      have := cover_plate (his.cover k hlt)
      rw [laidAt_eq hk] at this
      exact this
    obtain ⟨r, hr⟩ := sub_perm (b := c.map fun x => x.plate.toNat) (qs := (List.range l.length).flatMap fun i => List.replicate (plateAt l i).N.toNat i) (fun i => by
      by_cases hi : i < l.length
      · have hu := usedN_le_N okl his hi
        have e1 : (c.map fun x => x.plate.toNat).count i = usedN c c.length (i : Int) := by
          unfold usedN
          rw [List.take_length, List.count_eq_countP, List.countP_map]
          apply List.countP_congr
          intro x hx
          have := hin x hx
          simp
          omega
        have e2 : ((List.range l.length).flatMap fun i => List.replicate (plateAt l i).N.toNat i).count i = (plateAt l i).N.toNat := by
          have key : ∀ n, ((List.range n).flatMap fun i => List.replicate (plateAt l i).N.toNat i).count i = if i < n then (plateAt l i).N.toNat else 0 := by
            intro n
            induction n with
            | zero => rfl
            | succ n ih =>
              rw [List.range_succ, List.flatMap_append, List.count_append, ih]
              simp only [List.flatMap_cons, List.flatMap_nil, List.append_nil]
              rw [List.count_replicate]
              by_cases h1 : i < n
              · have h2 : ¬ n = i := by omega
                rw [if_pos h1, if_pos (show i < n + 1 by omega), if_neg (by simpa using h2), Nat.add_zero]
              · by_cases h2 : n = i
                · subst h2
                  rw [if_neg h1, if_pos (show n < n + 1 by omega), if_pos (by simp), Nat.zero_add]
                · rw [if_neg h1, if_neg (show ¬ i < n + 1 by omega), if_neg (by simpa using h2)]
          rw [key, if_pos hi]
        rw [e1, e2]
        omega
      · have : (c.map fun x => x.plate.toNat).count i = 0 := List.count_eq_zero.2 fun hm => by
          obtain ⟨x, hx, e⟩ := List.mem_map.1 hm
          have := hin x hx
          omega
        omega)
    refine ⟨r.map fun i => areaI (plateAt l i), ?_⟩
    have e : areasL l = ((List.range l.length).flatMap fun i => List.replicate (plateAt l i).N.toNat i).map fun i => areaI (plateAt l i) := by
      have el : l = (List.range l.length).map (plateAt l) := by
        apply List.ext_getElem (by simp)
        intro k h1 h2
        simp only [List.getElem_map, List.getElem_range]
        rw [plateAt_eq (List.getElem?_eq_getElem h1)]
      unfold areasL
      conv => lhs; rw [el]
      rw [List.flatMap_map, List.map_flatMap]
      congr 1
      funext i
      rw [List.map_replicate]
    rw [e]
    have := hr.map fun i => areaI (plateAt l i)
    rw [List.map_append, List.map_map] at this
    exact this
theorem areas_sum (l : List Plate) (okl : platesB l = true) : (areasL l).sum = (l.map fun p => p.N * areaI p).sum := by
  have hn : ∀ p ∈ l, 0 ≤ p.N := fun p hp => by
    obtain ⟨k, hk⟩ := List.getElem?_of_mem hp
    exact (plate_ok okl hk).n.1
  unfold areasL
  clear okl
  induction l with
  | nil => rfl
  | cons p l ih =>
    rw [List.flatMap_cons, List.sum_append, List.map_cons, List.sum_cons, ih fun q hq => hn q (by simp [hq])]
    congr 1
    have h0 := hn p (by simp)
    have key : ∀ n : Nat, (List.replicate n (areaI p)).sum = n * areaI p := by
      intro n
      induction n with
      | zero => simp
      | succ n ih =>
        rw [List.replicate_succ, List.sum_cons, ih]
        push_cast
        rw [Int.add_mul, Int.one_mul, Int.add_comm]
    rw [key, Int.toNat_of_nonneg h0]
end Go.Proofs.YtaaeapjnjjbglaaDoor

namespace Go.Proofs.YtaaeapjnjjbglaaDoor
open Go.RowKit

def uPass (ab : List Int) (out : List Nat) (m : Nat) : Nat := (List.range out.length).foldl (fun m k => if condU ab (outAt out k) m = true then m ||| outAt out k else m) m
def uRun (ab : List Int) (out : List Nat) : Nat → Nat → Nat
  | 0, m => m
  | f + 1, m => uRun ab out f (uPass ab out m)
/-- Whether all hang together, found by passes. -/
def hangV (s : Shape) (out : List Nat) : Option Bool :=
  if (List.range out.length).all (fun k => !condU (abv s) (outAt out k) (uRun (abv s) out out.length (outAt out 0))) = true then some (decide (pop (uRun (abv s) out out.length (outAt out 0)) = fullN s.cells)) else none
section
variable {s : Shape} {l : List Plate} {c : List Laid} {out : List Nat}
theorem InU.pass (ha : Apart s l c out) : ∀ (ks : List Nat) (m : Nat), (∀ k ∈ ks, k < c.length) → InU s l c out m → InU s l c out (ks.foldl (fun m k => if condU (abv s) (outAt out k) m = true then m ||| outAt out k else m) m)
  | [], _, _, h => h
  | k :: ks, m, hk, h => by
    rw [List.foldl_cons]
    refine InU.pass ha ks _ (fun j hj => hk j (by simp [hj])) ?_
    split
    · exact (InU.step ha h (hk k (by simp)) (by assumption)).1
    · exact h
theorem InU.run (ha : Apart s l c out) : ∀ (f m : Nat), InU s l c out m → InU s l c out (uRun (abv s) out f m)
  | 0, _, h => h
  | f + 1, _, h => InU.run ha f _ (InU.pass ha _ _ (fun k hk => by rw [← ha.len]; exact List.mem_range.1 hk) h)
theorem hangV_is (ha : Apart s l c out) {b : Bool} (h : hangV s out = some b) : hangB s l c = b := by
  unfold hangV at h
  split at h
  · rename_i hall
    cases h
    refine InU.done ha (InU.run ha _ _ (InU.start ha)) fun k hk => ?_
    have := List.all_eq_true.1 hall k (List.mem_range.2 (by rw [ha.len]; exact hk))
    simpa using this
  · cases h
end
def seeV (s : Shape) (st : Option (Option (List Laid × Nat))) (p : List Laid × List Nat) : Option (Option (List Laid × Nat)) :=
  match st, hangV s p.2 with
  | some st, some b => some (if b = true then (match st with
    | none => some (p.1, weakN s p.2)
    | some q => if p.1.length < q.1.length ∨ p.1.length = q.1.length ∧ weakN s p.2 < q.2 then some (p.1, weakN s p.2) else some q) else st)
  | _, _ => none
theorem seeV_none {s : Shape} : ∀ xs : List (List Laid × List Nat), xs.foldl (seeV s) none = none
  | [] => rfl
  | x :: xs => by
    rw [List.foldl_cons]
    exact seeV_none xs
theorem seeV_is {s : Shape} {l : List Plate} : ∀ (xs : List (List Laid × List Nat)) (st b : Option (List Laid × Nat)), (∀ p ∈ xs, Apart s l p.1 p.2) → xs.foldl (seeV s) (some st) = some b → xs.foldl (fun st p => seeB s l st p.1 p.2) st = b
  | [], st, b, _, h => by
    cases h
    rfl
  | p :: xs, st, b, ha, h => by
    rw [List.foldl_cons] at h ⊢
    cases hv : hangV s p.2 with
    | none =>
      have : seeV s (some st) p = none := by unfold seeV; rw [hv]
      rw [this, seeV_none] at h
      cases h
    | some v =>
      have e : seeV s (some st) p = some (seeB s l st p.1 p.2) := by
        unfold seeV seeB
        rw [hv, hangV_is (ha p (by simp)) hv]
        cases st with
        | none => rfl
        | some q =>
          simp only [better_iff]
      rw [e] at h
      exact seeV_is xs _ b (fun q hq => ha q (by simp [hq])) h
/-- The best one, found by calculation. -/
def bestV (s : Shape) (l : List Plate) : Option (Option (List Laid × Nat)) := (allComps s l).foldl (seeV s) (some none)
theorem all_apart {s : Shape} {l : List Plate} (ok : s.Ok) (okl : platesB l = true) {c : List Laid} {out : List Nat} (h : (c, out) ∈ allComps s l) : Apart s l c out := by
  have hr := (mem_all ok okl).1 h
  have hset := setRun_is hr
  exact apart_of ok okl (comp_pos ok (hset.comp ok rfl)) hset rfl
theorem bestV_is {s : Shape} {l : List Plate} (ok : s.Ok) (okl : platesB l = true) {b : Option (List Laid × Nat)} (h : bestV s l = some b) : bestB s l = b :=
  seeV_is _ _ _ (fun p hp => all_apart ok okl (c := p.1) (out := p.2) hp) h

def fourS : Shape := ⟨2, 1, 2, [3, 3, 3, 3]⟩
def pairS : Shape := ⟨2, 1, 1, [1, 2]⟩
def twoL (a b : Int) : List Plate := [⟨1, 1, a, 0⟩, ⟨1, 2, b, 0⟩]
def four4 : List Laid := [⟨0, 0, 0, 0, false⟩, ⟨0, 1, 0, 0, false⟩, ⟨0, 0, 0, 1, false⟩, ⟨0, 1, 0, 1, false⟩]
def best99 : List Laid := [⟨1, 0, 0, 0, true⟩, ⟨1, 0, 0, 1, true⟩]
def best91 : List Laid := [⟨0, 0, 0, 0, false⟩, ⟨0, 1, 0, 0, false⟩, ⟨1, 0, 0, 1, true⟩]
theorem four_valid : fourS.valid = true := by decide +kernel
theorem pair_valid : pairS.valid = true := by decide +kernel
theorem two99_ok : platesB (twoL 9 9) = true := by decide +kernel
theorem two91_ok : platesB (twoL 9 1) = true := by decide +kernel
theorem four_count : (allComps fourS (twoL 9 9)).length = 4 := by decide +kernel
theorem four_best : bestB fourS (twoL 9 9) = some (best99, 0) := bestV_is (Shape.ok_of four_valid) two99_ok (by kernel_rfl)
theorem four_best1 : bestB fourS (twoL 9 1) = some (best91, 0) := bestV_is (Shape.ok_of four_valid) two91_ok (by kernel_rfl)
theorem pair_best : bestB pairS (twoL 9 9) = none := bestV_is (Shape.ok_of pair_valid) two99_ok (by kernel_rfl)
theorem four_weak : weakR fourS (twoL 9 9) four4 = 1 ∧ compErr fourS (twoL 9 9) four4 = 0 := by decide +kernel
end Go.Proofs.YtaaeapjnjjbglaaDoor

namespace Go.Proofs.YtaaeapjnjjbglaaDoor
open Go.RowKit

theorem four_compose : composeE fourS (twoL 9 9) = 0 ∧ composeL fourS (twoL 9 9) = best99 := by
  have h : askErr fourS (twoL 9 9) = 0 := by decide +kernel
  unfold composeE composeL
  rw [h, four_best]
  exact ⟨rfl, rfl⟩
theorem four_compose1 : composeE fourS (twoL 9 1) = 0 ∧ composeL fourS (twoL 9 1) = best91 := by
  have h : askErr fourS (twoL 9 1) = 0 := by decide +kernel
  unfold composeE composeL
  rw [h, four_best1]
  exact ⟨rfl, rfl⟩
theorem pair_compose : composeE pairS (twoL 9 9) = 6 ∧ composeL pairS (twoL 9 9) = [] := by
  have h : askErr pairS (twoL 9 9) = 0 := by decide +kernel
  unfold composeE composeL
  rw [h, pair_best]
  exact ⟨rfl, rfl⟩
theorem four_countI : countI fourS (twoL 9 9) = 4 ∧ askErr fourS (twoL 9 9) = 0 := by decide +kernel
set_option maxRecDepth 100000 in
set_option maxHeartbeats 8000000 in
theorem alive_c (w : World) (hT : TzTab w) : Calls Tryd.prog 16 #[] w fun e w' => e = .returned (.bool true) ∧ Ext w w' := by
  go_enter Tryd.func16, Tryd.ntmps16
  go_wp2_with fail
  refine (four_c _).mono ?_
  rintro e w1 ⟨g1, rfl, hs1, E1⟩
  go_wp2_with fail
  refine (two_c 9 9 _).mono ?_
  rintro e w2 ⟨p2, rfl, hl2, E2⟩
  go_wp2_with fail
  have E := E1.trans E2
  refine (count_c fourS (some ⟨g1, 0, none⟩) 4 (twoL 9 9) (some ⟨p2, 0, none⟩) 2 _ (hs1.ext E2) hl2 (hT.ext E)).mono ?_
  rintro e w3 ⟨rfl, E3⟩
  rw [four_countI.1, four_countI.2]
  replace E := E.trans E3
  clear E1 E2 E3
  go_wp2_with fail
  refine (four_c _).mono ?_
  rintro e w4 ⟨g4, rfl, hs4, E4⟩
  go_wp2_with fail
  refine (two_c 9 9 _).mono ?_
  rintro e w5 ⟨p5, rfl, hl5, E5⟩
  replace E := (E.trans E4).trans E5
  go_wp2_with fail
  refine (compose_c fourS (some ⟨g4, 0, none⟩) 4 (twoL 9 9) (some ⟨p5, 0, none⟩) 2 _ (hs4.ext E5) hl5 (hT.ext E)).mono ?_
  rintro e w6 ⟨C6, cc6, rfl, hc6, -, E6⟩
  rw [four_compose.2] at hc6
  rw [four_compose.1, four_compose.2, show best99.length = 2 from rfl]
  replace E := E.trans E6
  clear E4 E5 E6 hs1 hl2 hs4 hl5
  go_wp2_with fail
  refine (four_c _).mono ?_
  rintro e w7 ⟨g7, rfl, hs7, E7⟩
  go_wp2_with fail
  refine (two_c 9 1 _).mono ?_
  rintro e w8 ⟨p8, rfl, hl8, E8⟩
  replace E := (E.trans E7).trans E8
  replace hc6 := hc6.ext (E7.trans E8)
  go_wp2_with fail
  refine (compose_c fourS (some ⟨g7, 0, none⟩) 4 (twoL 9 1) (some ⟨p8, 0, none⟩) 2 _ (hs7.ext E8) hl8 (hT.ext E)).mono ?_
  rintro e w9 ⟨C9, cc9, rfl, hc9, -, E9⟩
  rw [four_compose1.2] at hc9
  rw [four_compose1.1, four_compose1.2, show best91.length = 3 from rfl]
  replace E := E.trans E9
  replace hc6 := hc6.ext E9
  clear E7 E8 E9 hs7 hl8
  go_wp2_with fail
  refine (four_c _).mono ?_
  rintro e w10 ⟨g10, rfl, hs10, E10⟩
  go_wp2_with fail
  refine (two_c 9 9 _).mono ?_
  rintro e w11 ⟨p11, rfl, hl11, E11⟩
  replace E := (E.trans E10).trans E11
  replace hc6 := hc6.ext (E10.trans E11)
  replace hc9 := hc9.ext (E10.trans E11)
  replace hs10 := hs10.ext E11
  clear E10 E11
  go_wp2_with fail
  refine (at7_c _ _ _ _ _ _).mono ?_
  rintro e w12 ⟨rfl, E0⟩
  replace E := E.trans E0
  replace hc6 := hc6.ext E0
  replace hc9 := hc9.ext E0
  replace hs10 := hs10.ext E0
  replace hl11 := hl11.ext E0
  clear E0
  go_wp2_with fail
  refine (at7_c _ _ _ _ _ _).mono ?_
  rintro e w13 ⟨rfl, E0⟩
  replace E := E.trans E0
  replace hc6 := hc6.ext E0
  replace hc9 := hc9.ext E0
  replace hs10 := hs10.ext E0
  replace hl11 := hl11.ext E0
  clear E0
  go_wp2_with fail
  refine (at7_c _ _ _ _ _ _).mono ?_
  rintro e w14 ⟨rfl, E0⟩
  replace E := E.trans E0
  replace hc6 := hc6.ext E0
  replace hc9 := hc9.ext E0
  replace hs10 := hs10.ext E0
  replace hl11 := hl11.ext E0
  clear E0
  go_wp2_with fail
  refine (at7_c _ _ _ _ _ _).mono ?_
  rintro e w15 ⟨rfl, E0⟩
  replace E := E.trans E0
  replace hc6 := hc6.ext E0
  replace hc9 := hc9.ext E0
  replace hs10 := hs10.ext E0
  replace hl11 := hl11.ext E0
  clear E0
  have B16 := Blk.new w15 #[.int .i64 0, .int .i64 0, .int .i64 0, .int .i64 0, .bool false, .int .i64 0, .int .i64 1, .int .i64 0, .int .i64 0, .bool false, .int .i64 0, .int .i64 0, .int .i64 0, .int .i64 1, .bool false, .int .i64 0, .int .i64 1, .int .i64 0, .int .i64 1, .bool false] 64
  have E16 := ext_alloc w15 (.cells #[.int .i64 0, .int .i64 0, .int .i64 0, .int .i64 0, .bool false, .int .i64 0, .int .i64 1, .int .i64 0, .int .i64 0, .bool false, .int .i64 0, .int .i64 0, .int .i64 0, .int .i64 1, .bool false, .int .i64 0, .int .i64 1, .int .i64 0, .int .i64 1, .bool false] 64)
  have h16 : Laids _ (some ⟨w15.heap.size, 0, none⟩) 4 four4 := blk_slice B16 rfl (by decide +kernel) rfl (by show 4 ≤ maxLen; decide)
  replace E := E.trans E16
  replace hc6 := hc6.ext E16
  replace hc9 := hc9.ext E16
  go_wp2_with fail
  refine (weakTop_c fourS (some ⟨g10, 0, none⟩) 4 (twoL 9 9) (some ⟨p11, 0, none⟩) 2 four4 (some ⟨w15.heap.size, 0, none⟩) 4 (by decide) _ (hs10.ext E16) (hl11.ext E16) h16 (hT.ext E)).mono ?_
  rintro e w17 ⟨rfl, E17⟩
  rw [four_weak.1, four_weak.2]
  replace E := E.trans E17
  replace hc6 := hc6.ext E17
  replace hc9 := hc9.ext E17
  clear E16 E17 h16 B16 hs10 hl11
  have B17 := Blk.new w17 #[.int .u8 1, .int .u8 2] 5
  have E17 := ext_alloc w17 (.cells #[.int .u8 1, .int .u8 2] 5)
  have hs17 : Bytes _ (some ⟨w17.heap.size, 0, none⟩) 2 [1, 2] := ⟨blk_slice B17 rfl (by simp) rfl (by show 2 ≤ maxLen; decide), fun c hc => by
    simp only [List.mem_cons, List.not_mem_nil, or_false] at hc
    unfold byteOk
    omega⟩
  go_wp2_with fail
  refine (two_c 9 9 _).mono ?_
  rintro e w18 ⟨p18, rfl, hl18, E18⟩
  replace E := (E.trans E17).trans E18
  replace hc6 := hc6.ext (E17.trans E18)
  replace hc9 := hc9.ext (E17.trans E18)
  go_wp2_with fail
  refine (compose_c pairS (some ⟨w17.heap.size, 0, none⟩) 2 (twoL 9 9) (some ⟨p18, 0, none⟩) 2 _ (hs17.ext E18) hl18 (hT.ext E)).mono ?_
  rintro e w19 ⟨C19, cc19, rfl, -, -, E19⟩
  rw [pair_compose.1, pair_compose.2]
  replace E := E.trans E19
  replace hc6 := hc6.ext E19
  replace hc9 := hc9.ext E19
  clear E17 E18 E19 B17 hs17 hl18
  go_wp2_with fail
  refine (at7_c _ _ _ _ _ _).mono ?_
  rintro e w20 ⟨rfl, E0⟩
  replace E := E.trans E0
  replace hc6 := hc6.ext E0
  replace hc9 := hc9.ext E0
  clear E0
  go_wp2_with fail
  refine (at7_c _ _ _ _ _ _).mono ?_
  rintro e w21 ⟨rfl, E0⟩
  replace E := E.trans E0
  replace hc6 := hc6.ext E0
  replace hc9 := hc9.ext E0
  clear E0
  have B22 := Blk.new w21 #[.int .i64 1, .int .i64 0, .int .i64 0, .int .i64 0, .bool true, .int .i64 1, .int .i64 0, .int .i64 0, .int .i64 1, .bool true] 64
  have E22 := ext_alloc w21 (.cells #[.int .i64 1, .int .i64 0, .int .i64 0, .int .i64 0, .bool true, .int .i64 1, .int .i64 0, .int .i64 0, .int .i64 1, .bool true] 64)
  have h22 : Laids _ (some ⟨w21.heap.size, 0, none⟩) 2 best99 := blk_slice B22 rfl (by decide +kernel) rfl (by show 2 ≤ maxLen; decide)
  replace E := E.trans E22
  replace hc6 := hc6.ext E22
  replace hc9 := hc9.ext E22
  go_wp2_with fail
  refine (sameLaid_c C6 (some ⟨w21.heap.size, 0, none⟩) 2 cc6 2 best99 rfl _ hc6 h22).mono ?_
  rintro e w23 ⟨rfl, E23⟩
  replace E := E.trans E23
  replace hc9 := hc9.ext E23
  clear hc6 h22 E22 E23 B22
  go_wp2_with fail
  refine (at7_c _ _ _ _ _ _).mono ?_
  rintro e w24 ⟨rfl, E0⟩
  replace E := E.trans E0
  replace hc9 := hc9.ext E0
  clear E0
  go_wp2_with fail
  refine (at7_c _ _ _ _ _ _).mono ?_
  rintro e w25 ⟨rfl, E0⟩
  replace E := E.trans E0
  replace hc9 := hc9.ext E0
  clear E0
  go_wp2_with fail
  refine (at7_c _ _ _ _ _ _).mono ?_
  rintro e w26 ⟨rfl, E0⟩
  replace E := E.trans E0
  replace hc9 := hc9.ext E0
  clear E0
  have B27 := Blk.new w26 #[.int .i64 0, .int .i64 0, .int .i64 0, .int .i64 0, .bool false, .int .i64 0, .int .i64 1, .int .i64 0, .int .i64 0, .bool false, .int .i64 1, .int .i64 0, .int .i64 0, .int .i64 1, .bool true] 64
  have E27 := ext_alloc w26 (.cells #[.int .i64 0, .int .i64 0, .int .i64 0, .int .i64 0, .bool false, .int .i64 0, .int .i64 1, .int .i64 0, .int .i64 0, .bool false, .int .i64 1, .int .i64 0, .int .i64 0, .int .i64 1, .bool true] 64)
  have h27 : Laids _ (some ⟨w26.heap.size, 0, none⟩) 3 best91 := blk_slice B27 rfl (by decide +kernel) rfl (by show 3 ≤ maxLen; decide)
  replace E := E.trans E27
  replace hc9 := hc9.ext E27
  go_wp2_with fail
  refine (sameLaid_c C9 (some ⟨w26.heap.size, 0, none⟩) 3 cc9 3 best91 rfl _ hc9 h27).mono ?_
  rintro e w28 ⟨rfl, E28⟩
  replace E := E.trans E28
  go_wp2_with fail
  go_ret
  exact ⟨rfl, E⟩
end Go.Proofs.YtaaeapjnjjbglaaDoor

namespace Go.Proofs.YtaaeapjnjjbglaaDoor
open Go.RowKit

theorem color_in {s : Shape} (ok : s.Ok) (x y z : Int) : s.colorAt x y z ≤ 15 := by
  unfold Shape.colorAt
  split
  · rw [List.getD_eq_getElem?_getD]
    cases h : s.cells[(s.idx x y z).toNat]? with
    | none => simp
    | some c => exact ok.plain c (List.mem_of_getElem? h)
  · omega
theorem lies_color {s : Shape} {l : List Plate} {a : Laid} (h : liesB s l a = true) {x y z : Int} (hh : hasB l a x y z = true) : s.colorAt x y z = s.colorAt a.x a.y a.z := by
  obtain ⟨-, -, -, hs, -, -⟩ := lies_iff.1 h
  obtain ⟨rfl, hx, hy⟩ := hasB_iff.1 hh
  have := sameAll_iff.1 hs (y - a.y).toNat (by omega) (x - a.x).toNat (by omega)
  rw [show a.x + ((x - a.x).toNat : Int) = x by omega, show a.y + ((y - a.y).toNat : Int) = y by omega] at this
  exact this
/-- The cells of the first k bricks. -/
def cntTo (l : List Plate) (c : List Laid) (k : Nat) : Nat := ((c.take k).map fun a => areaP (plateAt l a.plate.toNat)).sum
theorem cntTo_succ {l : List Plate} {c : List Laid} {k : Nat} {a : Laid} (h : c[k]? = some a) : cntTo l c (k + 1) = cntTo l c k + areaP (plateAt l a.plate.toNat) := by
  unfold cntTo
  rw [List.take_add_one, h, Option.toList_some, List.map_append, List.sum_append]
  simp
/-- The cells of one brick of the model. -/
def CellsAt (L : List Lat.Pt) (n : Nat) (w : World) (e : Ending) (w' : World) : Prop := ∃ g cap, e = .returned (.tuple #[.slice (some ⟨g, 0, none⟩) n cap, .int .i64 0]) ∧ g < w'.heap.size ∧ (∀ j q, L[j]? = some q → w'.cell? ⟨g, j * 3, none⟩ = some (.int .i64 q.x) ∧ w'.cell? ⟨g, j * 3 + 1, none⟩ = some (.int .i64 q.y) ∧ w'.cell? ⟨g, j * 3 + 2, none⟩ = some (.int .i64 q.z)) ∧ Ext w w'
theorem brick_cells {s : Shape} {l : List Plate} {c : List Laid} (hce : compErr s l c = 0) {w0 : World} {QA : Option Addr} {qc : Nat} {qs : List (Lat.Knd × Lat.KAt)} (hqs : qs.map (·.1) = l.map kndOf) (hk : Lat.Kinds w0 QA qc qs) (h0 : Lat.kindsErr (qs.map (·.1)) = 0) (hb : ∀ x ∈ s.cells, byteOk x) {k : Nat} {a : Laid} (ha : c[k]? = some a) :
    ∃ L : List Lat.Pt, (∀ q ∈ L, s.colorAt q.x q.y q.z = s.colorAt a.x a.y a.z) ∧ s.colorAt a.x a.y a.z ≠ 0 ∧ L.length = areaP (plateAt l a.plate.toNat) ∧ areaP (plateAt l a.plate.toNat) ≤ 64 ∧
      ∀ W, Ext w0 W → Calls Tryd.prog 23 #[.slice QA qs.length qc, .agg #[.int .i64 a.plate, .int .i64 (brickX l a), .int .i64 a.y, .int .i64 a.z, .int .u8 (if a.turned then 1 else 0), .int .u8 (s.colorAt a.x a.y a.z)]] W (CellsAt L (areaP (plateAt l a.plate.toNat)) W) := by
  obtain ⟨hv, okl, hcomp⟩ := comp_parts hce
  have ok := Shape.ok_of hv
  have hl := comp_lies hcomp ha
  obtain ⟨hp, hin, -, -, hcol, -⟩ := lies_iff.1 hl
  have hql : qs.length = l.length := by
    have := congrArg List.length hqs
    simpa using this
  have hpl : l[a.plate.toNat]? = some (plateAt l a.plate.toNat) := by
    unfold plateAt
    rw [List.getD_eq_getElem?_getD, List.getElem?_eq_getElem (by omega)]
    rfl
  have pok := plate_ok okl hpl
  have hw1 := pok.w
  have hd1 := pok.d
  have hloc := (Shape.inside_iff s _ _ _).1 hin
  have hW := ok.w
  have hD := ok.d
  have hH := ok.h
  have hbx : -1000 ≤ brickX l a ∧ brickX l a ≤ 1000 := by
    unfold brickX
    split <;> omega
  have hbok : (brkOf s l a).ok qs.length = true := by
    rw [Lat.Brk.ok_iff]
    refine ⟨hp.1, by rw [hql]; exact hp.2, Lat.nearB_iff.2 ⟨hbx, by show -1000 ≤ a.y ∧ a.y ≤ 1000; omega, by show -1000 ≤ a.z ∧ a.z ≤ 1000; omega⟩, ?_, color_in ok _ _ _⟩
    show (if a.turned then (1 : Int) else 0) < 24
    split <;> omega
  have he : Lat.askedErr (qs.map (·.1)) [brkOf s l a] = 0 := Lat.askedErr_good h0 fun j hj => by
    obtain rfl : j = 0 := by simpa using hj
    rw [List.length_map]
    exact hbok
  obtain ⟨i, kd, p, hik, hi, hf, -, -⟩ := Lat.asked_kind hk he
  have hik : a.plate = i := hik
  have hkd : kd = kndOf (plateAt l a.plate.toNat) := by
    have h1 : (qs.map (·.1))[i]? = some kd := by rw [List.getElem?_map, hi]; rfl
    rw [hqs, List.getElem?_map, show i = a.plate.toNat by omega, hpl] at h1
    exact (Option.some.inj h1).symm
  subst hkd
  obtain ⟨tn, htn⟩ : ∃ tn : Nat, (if a.turned then 1 else 0) = tn := ⟨_, rfl⟩
  have htn2 : (if a.turned then (1 : Int) else 0) = (tn : Int) := by rw [← htn]; split <;> rfl
  have hn : areaP (plateAt l a.plate.toNat) ≤ 64 := by
    have : (plateAt l a.plate.toNat).W * (plateAt l a.plate.toNat).D ≤ 8 * 8 := Int.mul_le_mul (by omega) (by omega) (by omega) (by omega)
    unfold areaP
    omega
  have hLl : (Lat.sortP (Lat.placeP (kndOf (plateAt l a.plate.toNat)).cells tn ⟨brickX l a, a.y, a.z⟩)).length = areaP (plateAt l a.plate.toNat) := by
    rw [Lat.sortP_len, Lat.placeP_len, kndOf_len]
  refine ⟨Lat.sortP (Lat.placeP (kndOf (plateAt l a.plate.toNat)).cells tn ⟨brickX l a, a.y, a.z⟩), fun q hq => ?_, hcol, hLl, hn, fun W EW => ?_⟩
  · have hq : q ∈ Lat.placeP (kndOf (plateAt l a.plate.toNat)).cells tn ⟨brickX l a, a.y, a.z⟩ := (List.mergeSort_perm _ _).mem_iff.1 hq
    rw [← htn] at hq
    exact lies_color hl (placed_has okl hp hq)
  · rw [hik, htn2]
    rw [hik] at hi hf hLl
    have hbyte : Lat.Brk.byte ⟨(i : Int), ⟨brickX l a, a.y, a.z⟩, tn, s.colorAt a.x a.y a.z⟩ := ⟨by show (0 : Int) ≤ tn ∧ (tn : Int) ≤ 255; rw [← htn2]; split <;> omega, colorAt_lo s hb _ _ _⟩
    have he2 : Lat.askedErr (qs.map (·.1)) [⟨(i : Int), ⟨brickX l a, a.y, a.z⟩, tn, s.colorAt a.x a.y a.z⟩] = 0 := by
      have e : brkOf s l a = ⟨(i : Int), ⟨brickX l a, a.y, a.z⟩, tn, s.colorAt a.x a.y a.z⟩ := by
        unfold brkOf
        rw [hik, htn2]
      rw [← e]
      exact he
    refine (Lat.Cells_ok qs QA qc W (hk.ext EW) i _ p hi hf (brickX l a) a.y a.z (s.colorAt a.x a.y a.z) tn hbyte he2 (by rw [← htn]; split <;> omega) ⟨by unfold Lat.CB; show -1000000 ≤ brickX l a ∧ brickX l a ≤ 1000000; omega, by unfold Lat.CB; show -1000000 ≤ a.y ∧ a.y ≤ 1000000; omega, by unfold Lat.CB; show -1000000 ≤ a.z ∧ a.z ≤ 1000000; omega⟩).mono ?_
    rintro e w' ⟨g, cp, -, rfl, -, -, hX, E⟩
    rw [kndOf_len]
    refine ⟨g, cp, rfl, hX.lt, fun j q hj => ?_, E⟩
    have hr : ((Lat.sortP (Lat.placeP (kndOf (plateAt l (i : Int).toNat)).cells tn ⟨brickX l a, a.y, a.z⟩)).map Lat.Pt.cs)[j]? = some q.cs := by rw [List.getElem?_map, hj]; rfl
    have hwide := Lat.pts_wide (Lat.sortP (Lat.placeP (kndOf (plateAt l (i : Int).toNat)).cells tn ⟨brickX l a, a.y, a.z⟩))
    have z0 := hX.cell hwide hr (show q.cs[0]? = some (.int .i64 q.x) from rfl)
    have z1 := hX.cell hwide hr (show q.cs[1]? = some (.int .i64 q.y) from rfl)
    have z2 := hX.cell hwide hr (show q.cs[2]? = some (.int .i64 q.z) from rfl)
    exact ⟨z0, z1, z2⟩
theorem cnt_full {s : Shape} {l : List Plate} {c : List Laid} (hce : compErr s l c = 0) : cntTo l c c.length = fullN s.cells := by
  obtain ⟨hv, okl, hcomp⟩ := comp_parts hce
  have ok := Shape.ok_of hv
  have h := comp_area ok okl hcomp
  have key : ∀ q : List Laid, (∀ a ∈ q, 0 ≤ a.plate ∧ a.plate < l.length) → (((q.map fun a => areaP (plateAt l a.plate.toNat)).sum : Nat) : Int) = (areasC l q).sum := by
    intro q
    induction q with
    | nil => intro _; rfl
    | cons a q ih =>
      intro hq
      have hp := hq a (by simp)
      have hpl : l[a.plate.toNat]? = some (plateAt l a.plate.toNat) := by
        unfold plateAt
        rw [List.getD_eq_getElem?_getD, List.getElem?_eq_getElem (by omega)]
        rfl
      have pok := plate_ok okl hpl
      have h1 := pok.w
      have hnn : 0 ≤ (plateAt l a.plate.toNat).W * (plateAt l a.plate.toNat).D := Int.mul_nonneg (by omega) (by omega)
      have e : ((areaP (plateAt l a.plate.toNat) : Nat) : Int) = areaI (plateAt l a.plate.toNat) := by
        unfold areaP areaI
        omega
      have := ih fun b hb => hq b (by simp [hb])
      unfold areasC at this ⊢
      rw [List.map_cons, List.sum_cons, List.map_cons, List.sum_cons, ← this, ← e]
      push_cast
      rfl
  unfold cntTo
  rw [List.take_length]
  have h2 := key c fun a ha => by
    obtain ⟨k, hk⟩ := List.getElem?_of_mem ha
    exact (lies_iff.1 (comp_lies hcomp hk)).1
  rw [h] at h2
  omega
theorem cntTo_le (l : List Plate) (c : List Laid) (k : Nat) : cntTo l c k ≤ cntTo l c c.length := by
  unfold cntTo
  rw [List.take_length]
  have e : (c.map fun a => areaP (plateAt l a.plate.toNat)).sum = ((c.take k).map fun a => areaP (plateAt l a.plate.toNat)).sum + ((c.drop k).map fun a => areaP (plateAt l a.plate.toNat)).sum := by
    rw [← List.sum_append, ← List.map_append, List.take_append_drop]
  omega
set_option maxHeartbeats 800000 in
theorem kinds_ill (l : List Plate) (PA : Option Addr) (pcap : Nat) (hp : platesB l = false) (w : World) (hl : Plates w PA pcap l) :
    Calls Tryd.prog 21 #[.slice PA l.length pcap] w fun e w' => e = .returned (.tuple #[.slice none 0 0, .int .i64 71]) ∧ Ext w w' := by
  have Hpe : Hid (platesErr l = 71) := Lib.hid (by unfold platesErr; rw [hp]; rfl)
  go_enter Tryd.func21, Tryd.ntmps21
  go_wp2_with fail
  refine (checkPlates_c PA pcap l _ hl).mono ?_
  rintro e W1 ⟨rfl, E1⟩
  rw [Hpe.out]
  go_wp2_with fail
  go_ret2
  exact ⟨rfl, E1⟩
theorem kinds_any (l : List Plate) (PA : Option Addr) (pcap : Nat) (w : World) (hl : Plates w PA pcap l) :
    Calls Tryd.prog 21 #[.slice PA l.length pcap] w fun e w' => ∃ A n cp ke, e = .returned (.tuple #[.slice A n cp, .int .i64 ke]) ∧ Ext w w' := by
  cases hp : platesB l
  · exact (kinds_ill l PA pcap hp w hl).mono fun e w' ⟨h1, h2⟩ => ⟨none, 0, 0, 71, h1, h2⟩
  · refine (kinds_c l PA pcap hp w hl).mono fun e w' ⟨h1, h2⟩ => ?_
    cases hb : tooBig l
    · obtain ⟨⟨OA, oc, rows, h3, -, -⟩, h4⟩ := h1 hb
      exact ⟨OA, _, oc, 0, h3, h4⟩
    · obtain ⟨h3, h4⟩ := h2 hb
      exact ⟨none, 0, 0, 2, h3, h4⟩
set_option maxRecDepth 100000 in
set_option maxHeartbeats 8000000 in
theorem cellsLaw_walk (s : Shape) (A : Option Addr) (cap : Nat) (l : List Plate) (PA : Option Addr) (pcap : Nat) (c : List Laid) (CA : Option Addr) (ccap : Nat) (w : World) (hs : Bytes w A cap s.cells) (hl : Plates w PA pcap l) (hcs : Laids w CA ccap c) (hT : TzTab w) :
    Calls Tryd.prog 5 #[.agg #[.int .i64 s.W, .int .i64 s.D, .int .i64 s.H, .slice A s.cells.length cap], .slice PA l.length pcap, .slice CA c.length ccap] w fun e w' => e = .returned (.bool true) ∧ Ext w w' := by
  have hn1 := hs.len
  have hn2 := hl.len
  have hn3 : c.length ≤ maxLen := Nat.le_trans hcs.le hcs.small
  have CM := Lib.hid (fun W => much_c s.W s.D s.H A PA CA s.cells.length l.length c.length cap pcap ccap hn1 hn2 hn3 W)
  unfold maxLen at hn1 hn2 hn3
  obtain ⟨W1, hW1, E1, B1, hz1⟩ := box_ w #[.int .i64 s.W, .int .i64 s.D, .int .i64 s.H, .slice A s.cells.length cap] 24
  obtain ⟨mb, hmb⟩ : ∃ b, muchB s.cells.length l.length c.length = b := ⟨_, rfl⟩
  rw [hmb] at CM
  have Hmb := Lib.hid hmb
  have Hs := Lib.hid hs
  have Hl := Lib.hid hl
  have Hc := Lib.hid hcs
  clear hmb hs hl hcs
  go_enter Tryd.func5, Tryd.ntmps5
  go_wp2_with fail
  refine (alive_c _ (hT.ext E1)).mono ?_
  rintro e W2 ⟨rfl, E2⟩
  have HE2 := Lib.hid (E1.trans E2)
  have HB2 := Lib.hid (B1.ext E2)
  clear E1 E2 B1 hz1 hW1 hT
  have b2 := HB2.out.cell
  go_wp2_with fail
  refine (CM.out _).mono ?_
  rintro e W3 ⟨rfl, E3⟩
  have HE3 := Lib.hid (HE2.out.trans E3)
  have HB3 := Lib.hid (HB2.out.ext E3)
  clear E3 b2
  have b3 := HB3.out.cell
  cases mb
  · have hmuch := Hmb.out
    unfold muchB at hmuch
    simp only [Bool.or_eq_false_iff, decide_eq_false_iff_not] at hmuch
    have hcl : c.length ≤ 30 := by omega
    have hll : l.length ≤ 20 := by omega
    clear hmuch
    obtain ⟨ce, hce⟩ : ∃ v, compErr s l c = v := ⟨_, rfl⟩
    have Hce := Lib.hid hce
    by_cases hc0 : ce = 0
    · subst hc0
      have CMo := model_ok s A cap l PA pcap c CA ccap hce (by omega) W3 (Hs.out.ext HE3.out) (Hl.out.ext HE3.out) (Hc.out.ext HE3.out)
      clear hce
      go_wp2_with fail
      refine CMo.mono ?_
      rintro e W4 ⟨⟨v4, rfl, own4⟩, E4⟩
      obtain ⟨MA, mc, rfl⟩ := ownForm own4
      have HBr := Lib.hid (bricks_at (Hs.out.2) own4)
      have HE4 := Lib.hid (HE3.out.trans E4)
      have HB4 := Lib.hid (HB3.out.ext E4)
      clear own4 E4 CMo b3
      obtain ⟨W5, hW5, E5, B5, hz5⟩ := box_ W4 #[.slice MA c.length mc] 48
      obtain ⟨GM, hGM⟩ : ∃ g, W4.heap.size = g := ⟨_, rfl⟩
      rw [hGM] at B5
      have HB5 := Lib.hid (HB4.out.ext E5)
      have HM5 := Lib.hid B5
      have HBr5 := Lib.hid (HBr.out.ext E5)
      have HE5 := Lib.hid (HE4.out.trans E5)
      have CK := kinds_c l PA pcap (comp_parts Hce.out).2.1 W5 (Hl.out.ext HE5.out)
      clear E5 B5 hz5
      go_wp2_with fail
      refine CK.mono ?_
      rintro e W6 hk6
      clear hW5 hGM CK
      cases htb : tooBig l
      · obtain ⟨⟨OA, oc, rows, rfl, own6, hown6⟩, E6⟩ := hk6.1 htb
        obtain ⟨qs, hqs, hkq⟩ := kinds_at own6 hown6
        have hql : qs.length = l.length := by
          have := congrArg List.length hqs
          simpa using this
        have HE6 := Lib.hid (HE5.out.trans E6)
        have HB6 := Lib.hid (HB5.out.ext E6)
        have HM6 := Lib.hid (HM5.out.ext E6)
        have HBr6 := Lib.hid (HBr5.out.ext E6)
        obtain ⟨kr, hkr⟩ : ∃ v, Lat.kindsErr (qs.map (·.1)) = v := ⟨_, rfl⟩
        have CKi := Lat.checkKinds_is hkr hkq
        rw [hql] at CKi
        by_cases hk0 : kr = 0
        · subst hk0
          have Hkr := Lib.hid hkr
          have Hqs := Lib.hid hqs
          have Hql := Lib.hid hql
          have b6 := HM6.out.cell
          clear hkr hqs hql E6 hk6 own6 hown6 htb
          go_wp2_with fail
          refine CKi.mono ?_
          rintro e W7 ⟨rfl, E7⟩
          have HE7 := Lib.hid (HE6.out.trans E7)
          have HB7 := Lib.hid (HB6.out.ext E7)
          have HBr7 := Lib.hid (HBr6.out.ext E7)
          have HK7 := Lib.hid (hkq.ext E7)
          have b7 := (HM6.out.ext E7).cell
          clear E7 hkq CKi b6
          go_wp2_with fail
          have Hf : Hid (cntTo l c c.length ≤ 9223372036854775807 ∧ cntTo l c c.length = fullN s.cells) := Lib.hid (by
            have e := cnt_full Hce.out
            have := fullN_le s.cells
            omega)
          clear b7
          go_loopw [12, 56] (fun nn i wr => ∃ k : Nat, k ≤ c.length ∧ i = .int .i64 k ∧ nn = .int .i64 (cntTo l c k) ∧ Ext W7 wr) (fun _ i _ => c.length - (intOf i).toNat)
          case atStart => exact ⟨0, by omega, rfl, rfl, Ext.refl _⟩
          case round =>
            obtain ⟨k, hk, rfl, rfl, E⟩ := hrel
            by_cases hlt : k < c.length
            · obtain ⟨b, off, p, hMA, hp, -, hb, p0, p1, p2, p3, p4, p5⟩ := (HBr7.out.ext E).at_ (show k < (c.map (brkOf s l)).length by rw [List.length_map]; exact hlt)
              subst hMA
              obtain ⟨a, ha⟩ : ∃ a, c[k]? = some a := ⟨_, List.getElem?_eq_getElem hlt⟩
              obtain rfl : brkOf s l a = p := by
                rw [List.getElem?_map, ha] at hp
                exact Option.some.inj hp
              obtain ⟨L, hL1, hL2, hL3, hL4, hL5⟩ := brick_cells Hce.out Hqs.out HK7.out Hkr.out Hs.out.2 ha
              rw [Hql.out] at hL5
              replace p0 : wr.cell? ⟨b, off + k * 6, none⟩ = some (.int .i64 a.plate) := p0
              replace p1 : wr.cell? ⟨b, off + k * 6 + 1, none⟩ = some (.int .i64 (brickX l a)) := p1
              replace p2 : wr.cell? ⟨b, off + k * 6 + 2, none⟩ = some (.int .i64 a.y) := p2
              replace p3 : wr.cell? ⟨b, off + k * 6 + 3, none⟩ = some (.int .i64 a.z) := p3
              replace p4 : wr.cell? ⟨b, off + k * 6 + 4, none⟩ = some (.int .u8 (if a.turned then 1 else 0)) := p4
              replace p5 : wr.cell? ⟨b, off + k * 6 + 5, none⟩ = some (.int .u8 (s.colorAt a.x a.y a.z)) := p5
              have hcs := cntTo_succ (l := l) ha
              have hcl1 := cntTo_le l c (k + 1)
              rw [hcs] at hcl1
              have Hf1 := Hf.out.1
              obtain ⟨n, hn⟩ : ∃ n, areaP (plateAt l a.plate.toNat) = n := ⟨_, rfl⟩
              obtain ⟨m, hm⟩ : ∃ m, cntTo l c k = m := ⟨_, rfl⟩
              obtain ⟨pl, hpl⟩ : ∃ v, a.plate = v := ⟨_, rfl⟩
              obtain ⟨bx, hbx⟩ : ∃ v, brickX l a = v := ⟨_, rfl⟩
              obtain ⟨tt, htt⟩ : ∃ v : Int, (if a.turned then 1 else 0) = v := ⟨_, rfl⟩
              obtain ⟨cc, hcc⟩ : ∃ v, s.colorAt a.x a.y a.z = v := ⟨_, rfl⟩
              rw [hm, hn] at hcs hcl1
              rw [hn] at hL3 hL4 hL5
              rw [hpl] at p0
              rw [hbx] at p1
              rw [htt] at p4
              rw [hcc] at p5 hL1 hL2
              rw [hpl, hbx, htt, hcc] at hL5
              rw [hm]
              have Hcs := Lib.hid hcs
              obtain ⟨ay, hay⟩ : ∃ v, a.y = v := ⟨_, rfl⟩
              obtain ⟨az, haz⟩ : ∃ v, a.z = v := ⟨_, rfl⟩
              rw [hay] at p2
              rw [haz] at p3
              rw [hay, haz] at hL5
              have hmn : m + n ≤ 9223372036854775807 := by omega
              clear hm hn hpl hbx htt hcc hay haz hcs hcl1 Hf1 hp
              obtain ⟨V, hV, EV, BP, hzV⟩ := box_ wr #[.int .i64 pl, .int .i64 bx, .int .i64 ay, .int .i64 az, .int .u8 tt, .int .u8 cc] 58
              obtain ⟨gb, hgb⟩ : ∃ g, wr.heap.size = g := ⟨_, rfl⟩
              rw [hgb] at BP
              have HBP := Lib.hid BP
              have bP := BP.cell
              have lP := BP.lt
              have HEV := Lib.hid (E.trans EV)
              have HL5 := Lib.hid hL5
              have HL1 := Lib.hid hL1
              have HL3 := Lib.hid hL3
              have hc1 : (cc == 0) = false := by simpa using hL2
              clear E EV BP hzV hL5 hL1 hL3 hL2
              go_wp2_with fail
              refine (HL5.out _ HEV.out).mono ?_
              rintro e V2 ⟨g, cp, rfl, hg, hcell, E2⟩
              have HE2 := Lib.hid (HEV.out.trans E2)
              have HBP2 := Lib.hid (HBP.out.ext E2)
              have Hcell := Lib.hid hcell
              clear hV bP lP hcell E2 p0 p1 p2 p3 p4 p5 hgb hb
              go_wp2_with fail
              obtain ⟨wo, rfl⟩ : ∃ wo : World, wo = wr := ⟨_, rfl⟩
              go_loopw [12, 70] (fun nn i wr => ∃ j : Nat, j ≤ n ∧ i = .int .i64 j ∧ nn = .int .i64 (m + j : Nat) ∧ Ext V2 wr) (fun _ i _ => n - (intOf i).toNat)
              case atStart => exact ⟨0, by omega, rfl, rfl, Ext.refl _⟩
              case round =>
                obtain ⟨j, hj, rfl, rfl, E3⟩ := hrel
                by_cases hjl : j < n
                · obtain ⟨q, hq⟩ : ∃ q, L[j]? = some q := ⟨_, List.getElem?_eq_getElem (by rw [HL3.out]; exact hjl)⟩
                  obtain ⟨c0, c1, c2⟩ := Hcell.out j q hq
                  have c0 := E3.cell c0
                  have c1 := E3.cell c1
                  have c2 := E3.cell c2
                  have hgr : g < wr.heap.size := Nat.lt_of_lt_of_le hg E3.size
                  have hco := HL1.out q (List.mem_of_getElem? hq)
                  obtain ⟨qx, qy, qz⟩ := q
                  have hco : s.colorAt qx qy qz = cc := hco
                  simp only at c0 c1 c2
                  obtain ⟨V3, hV3, EV3, BC, hzV3⟩ := box_ wr #[.int .i64 qx, .int .i64 qy, .int .i64 qz] 56
                  have bP := (HBP2.out.ext (E3.trans EV3)).cell
                  have lP := (HBP2.out.ext (E3.trans EV3)).lt
                  have bC := BC.cell
                  have lC := BC.lt
                  have B7 := HB7.out.ext ((HE2.out.trans E3).trans EV3)
                  have bS := B7.cell
                  have lS := B7.lt
                  have EE := (HE2.out.trans E3).trans EV3
                  have HE3 := Lib.hid (E3.trans EV3)
                  have Hat := Lib.hid (fun x => rAt_c s A cap qx qy qz (Shape.ok_of (comp_parts Hce.out).1) (grow V3 x) (Hs.out.ext (((HE7.out.trans EE)).trans ((Ext.refl V3).grow x))))
                  rw [hco] at Hat
                  clear B7 EE BC E3 EV3 hq hco
                  go_wp2_with fail
                  refine wp_region_grow (by kernel_rfl) (by kernel_rfl) ?_
                  repeat (go_big_quiet_step ((go_at_call 24; exact quiet_ext (Hat.out _))))
                  refine wpQuiet_nil ?_
                  intro V4 hV4
                  have E4 : Ext V3 V4 := by
                    obtain ⟨x, rfl⟩ := hV4
                    exact (Ext.refl _).grow x
                  clear hV4
                  obtain ⟨hcV4, hfV4, hzV4⟩ := ext_facts E4
                  clear bP lP bC lC bS lS c0 c1 c2 hV3 hzV3
                  go_wp2_with fail
                  go_roundw
                  case rel => exact ⟨j + 1, by omega, by go_num, by go_num, HE3.out.trans E4⟩
                  case measure => simp only [intOf]; omega
                · obtain rfl : j = n := by omega
                  go_wp2_with fail
                  go_roundw
                  case rel => exact ⟨k + 1, by omega, by go_num, by rw [Hcs.out], HE2.out.trans E3⟩
                  case measure => simp only [intOf]; omega
            · obtain rfl : k = c.length := by omega
              rw [Hf.out.2]
              have b8 := (HB7.out.ext E).cell
              have HE8 := Lib.hid (HE7.out.trans E)
              have CF := rFull_c A cap s.W s.D s.H s.cells wr (Hs.out.ext HE8.out)
              clear E
              go_wp2_with fail
              refine CF.mono ?_
              rintro e W9 ⟨rfl, E9⟩
              go_wp2_with fail
              go_ret
              exact ⟨by simp, HE8.out.trans E9⟩
        · have hk1 : (kr != 0) = true := by simpa using hk0
          clear hkr hqs hk0 own6 hown6 htb hk6 E6
          go_wp2_with fail
          refine CKi.mono ?_
          rintro e W7 ⟨rfl, E7⟩
          go_wp2_with fail
          go_ret
          exact ⟨rfl, HE6.out.trans E7⟩
      · obtain ⟨rfl, E6⟩ := hk6.2 htb
        have HE6 := Lib.hid (HE5.out.trans E6)
        clear E6 hk6 htb
        go_wp2_with fail
        go_ret
        exact ⟨rfl, HE6.out⟩
    · have CMb := model_bad s A cap l PA pcap c CA ccap ce hce hc0 (by omega) W3 (Hs.out.ext HE3.out) (Hl.out.ext HE3.out) (Hc.out.ext HE3.out)
      have h1 : (ce != 0) = true := by simpa using hc0
      clear hce hc0
      go_wp2_with fail
      refine CMb.mono ?_
      rintro e W4 ⟨rfl, E4⟩
      have HE4 := Lib.hid (HE3.out.trans E4)
      have CK := Lib.hid (fun (W : World) (E : Ext w W) => kinds_any l PA pcap W (Hl.out.ext E))
      clear E4 CMb b3
      go_wp2_with fail
      refine (CK.out _ (HE4.out.alloc _)).mono ?_
      rintro e W6 ⟨KA, kn, kc, ke, rfl, E6⟩
      have HE6 := Lib.hid ((HE4.out.alloc _).trans E6)
      clear E6
      go_wp2_with fail
      go_ret
      exact ⟨rfl, HE6.out⟩
  · go_wp2_with fail
    go_ret
    exact ⟨rfl, HE3.out⟩
end Go.Proofs.YtaaeapjnjjbglaaDoor

namespace Go.Proofs.YtaaeapjnjjbglaaDoor
open Go.RowKit Go.ChangeShapes Go.WideShapes Go.ChangeAt Go.Deep Go.Joins

set_option maxRecDepth 100000 in
theorem cellsLaw_lifted (os : Os) (started : os.Started) (H : Type) (enc : TypeId × Value → H) :
    ReturnsInHanded {} Tryd.checked os 5 .any (fun w args => (Rows.composeCellsSpec.pre enc Tryd.prog Tryd.f5 [] false w args ∧ laidMetH Tryd.prog laidTab w) ∧ sizedMet enc Tryd.prog Tryd.f5 (OpenSpec.ofChange Rows.composeCellsSpec) false w args)
      (Rows.composeCellsSpec.post enc Tryd.prog Tryd.f5 false true false false) := by
  refine returnsInHanded_of_change_and (C := Tryd.checked) (X := fun w _ => laidMetH Tryd.prog laidTab w) (fun _ _ _ hh h => h.of_heap hh) Tryd.own started (by kernel_rfl) Tryd.func5
    (ChangeSpec.witness_at (enc := enc) (C := Tryd.checked) (os := os) (X := fun w _ => laidMetH Tryd.prog laidTab w) false (laidWorld os) #[.agg #[.int .i64 0, .int .i64 0, .int .i64 0, .slice none 0 0], .slice none 0 0, .slice none 0 0] 8 rfl (by kernel_rfl) (by kernel_rfl) (by kernel_rfl) (by kernel_rfl) (by kernel_rfl) (laidWorld_met os _)) ?_
  intro W base args ds gs before hval0 hW _ _ hL _
  have hval : ∀ (j : Nat) t v, Tryd.f5.params[j]? = some t → args[j]? = some v → Value.okWide Tryd.prog W .any base t v := hval0
  have hW' := hW
  obtain ⟨p, q, hA0, hV, rfl, hfz, hnd⟩ := hW
  have hA : DataW.TrodAll enc Tryd.prog W 0 (fun _ => true) true Tryd.f5.params.toList args.toList ds p := hA0
  rw [Tryd.params5] at hA hval
  have hAll := hA
  obtain ⟨v0, v1, v2, d0, d1, d2, p0, p1, p2, rfl, rfl, rfl, h0, h1, h2⟩ := trodAll_three hA
  obtain ⟨rfl, rfl⟩ := trodVars_none hV
  obtain ⟨c0, c1, c2, c3, y0, y1, y2, y3, m, rfl, rfl, rfl, hy0, hy1, hy2, hy3⟩ := open_agg4 Tryd.underlying24 (by kernel_rfl) cells_shape (hval 0 24 v0 rfl rfl) h0
  obtain ⟨x, e0, e0', -⟩ := DataW.trod_int Tryd.underlying3 hy0
  obtain ⟨y, e1, e1', -⟩ := DataW.trod_int Tryd.underlying3 hy1
  obtain ⟨z, e2, e2', -⟩ := DataW.trod_int Tryd.underlying3 hy2
  simp at e0 e1 e2
  subst e0 e1 e2
  have hc3 : ∃ A n ca, c3 = .slice A n ca := by
    rcases open_slice Tryd.underlying22 hy3 with ⟨h, _⟩ | ⟨a, len, cap', _, _, _, _, h, _⟩
    · exact ⟨none, 0, 0, by simpa using h⟩
    · exact ⟨some a, len, cap', by simpa using h⟩
  obtain ⟨A, n, ca, rfl⟩ := hc3
  obtain ⟨cs, hcl, hcs⟩ := bytes_of_trod hy3
  obtain ⟨B, n1, cb, rfl⟩ := okWide_slice Tryd.underlying25 (hval 1 25 v1 rfl rfl)
  obtain ⟨C, n2, cc, rfl⟩ := okWide_slice Tryd.underlying27 (hval 2 27 v2 rfl rfl)
  obtain ⟨fu1, hf1⟩ := h1
  obtain ⟨fu2, hf2⟩ := h2
  obtain ⟨l, rfl, hpl⟩ := plates_of_trod (by simpa [Value.cells] using hf1)
  obtain ⟨ls, rfl, hla⟩ := laids_of_trod (by simpa [Value.cells] using hf2)
  subst hcl
  clear hA0 hval0
  simp only [List.append_nil] at hW' hAll
  have hlt : ∀ q ∈ (y0.2 ++ (y1.2 ++ (y2.2 ++ y3.2))) ++ p1 ++ p2, q.block < W.heap.size := fun q hq => hW'.lt q hq
  refine (cellsLaw_walk ⟨x, y, z, cs⟩ A ca l B cb ls C cc W hcs hpl hla (tz_of_laid hL)).mono fun e W' ⟨he, hE⟩ => ?_
  subst he
  refine ⟨_, rfl, ?_⟩
  refine ⟨_, _, _, [], (y0.2 ++ (y1.2 ++ (y2.2 ++ y3.2))) ++ p1 ++ p2, [], hW', ?_, ?_, rfl, hE.frame _, fun h => by cases h⟩
  · exact trodAll_mk1 (shut_bool Tryd.underlying4 true)
  · exact trodAll_ext (ts := [24, 25, 27]) Tryd.laidOut hE (by
      intro t ht
      simp only [List.mem_cons, List.not_mem_nil, or_false] at ht
      rcases ht with rfl | rfl | rfl <;> exact ⟨by kernel_rfl, of_decide_eq_true (by kernel_rfl)⟩) hAll hlt

theorem composeCells_row : Rows.ComposeCellsSaid :=
  OpenClaim.holds_of_wide 5 Tryd.f5 rfl rfl rfl rfl rfl rfl rfl ⟨rfl, rfl, rfl, rfl, rfl⟩ rfl rfl rfl rfl rfl (by kernel_rfl) Tryd.func5 (by kernel_rfl)
    (of_decide_eq_true (by kernel_rfl)) (by unfold Func.isWrapper; rw [if_neg (of_decide_eq_false (by kernel_rfl))]; exact ⟨rfl, rfl⟩)
    (fun os started H enc _ => cellsLaw_lifted os started H enc)
theorem composeCells_holds : Rows.ComposeCellsCardSaid :=
  Claim7.holds_tied_plain_at .later [] [.data] true Rows.composeCellsCard.stood.harness false
    composeCells_row (fun _ h => by cases h) (by kernel_rfl) (fun _ h => by cases h) composeCells_row_tie rfl ⟨rfl, rfl⟩ (by kernel_rfl) rfl
    (fun f fn hf hfn => by
      obtain rfl : f = 5 := Option.some.inj ((show Tryd.prog.funcNamed "studwork/studworklaw07.ComposeCells" = some 5 by kernel_rfl).symm.trans hf) |>.symm
      obtain rfl : fn = Tryd.f5 := (Option.some.inj (Tryd.func5.symm.trans hfn)).symm
      exact ⟨by kernel_rfl, fun j t ht => by
        rw [Tryd.params5] at ht
        have ht := List.mem_of_getElem? (show ([24, 25, 27] : List TypeId)[j]? = some t by simpa using ht)
        simp only [List.mem_cons, List.not_mem_nil, or_false] at ht
        rcases ht with rfl | rfl | rfl
        · exact (show Tryd.prog.wantsStandIn 24 = false by kernel_rfl)
        · exact (show Tryd.prog.wantsStandIn 25 = false by kernel_rfl)
        · exact (show Tryd.prog.wantsStandIn 27 = false by kernel_rfl)⟩)
    (by kernel_rfl)
#print axioms composeCells_holds
end Go.Proofs.YtaaeapjnjjbglaaDoor
