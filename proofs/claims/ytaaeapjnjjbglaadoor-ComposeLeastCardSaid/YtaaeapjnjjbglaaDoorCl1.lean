/- The given statement ComposeLeastCardSaid: for every input the law returns true, and each argument reads behind the call as it did; the listed table is tied to the program's text. No other conditions. -/
import Derived.Test.YtaaeapjnjjbglaaDoorCm19
import Derived.SevenTiedAt

namespace Go.Proofs.YtaaeapjnjjbglaaDoor
open Go.RowKit

/-- The numbers of the cells of a laid plate. -/
def numsL (s : Shape) (l : List Plate) (x : Laid) : List Nat := (List.range (sizeD l x).toNat).flatMap fun (i : Nat) => (List.range (sizeW l x).toNat).map fun (j : Nat) => (s.num (x.x + (j : Int)) (x.y + (i : Int)) x.z).toNat
theorem nums_num {s : Shape} {l : List Plate} {x : Laid} (hl : liesB s l x = true) {i j : Nat} (hi : i < (sizeD l x).toNat) (hj : j < (sizeW l x).toNat) : 0 ≤ s.num (x.x + (j : Int)) (x.y + (i : Int)) x.z ∧ hasB l x (x.x + (j : Int)) (x.y + (i : Int)) x.z = true := by
  have hh : hasB l x (x.x + (j : Int)) (x.y + (i : Int)) x.z = true := by
    rw [hasB_iff]
    omega
  exact ⟨lies_num hl hh, hh⟩
theorem nums_mem {s : Shape} {l : List Plate} {x : Laid} {m : Nat} (ok : s.Ok) (hl : liesB s l x = true) (hm : coverOf s l x = some m) {b : Nat} : b ∈ numsL s l x ↔ m.testBit b = true := by
  unfold numsL
  rw [List.mem_flatMap]
  constructor
  · rintro ⟨i, hi, hb⟩
    obtain ⟨j, hj, e⟩ := List.mem_map.1 hb
    obtain ⟨h0, hh⟩ := nums_num hl (List.mem_range.1 hi) (List.mem_range.1 hj)
    exact (cover_bits ok hm (by omega)).2 hh
  · intro h
    obtain ⟨-, u, v, z, hb⟩ := cover_lt ok hm h
    have hh := (cover_bits ok hm hb).1 h
    rw [hasB_iff] at hh
    obtain ⟨rfl, hx, hy⟩ := hh
    refine ⟨(v - x.y).toNat, List.mem_range.2 (by omega), List.mem_map.2 ⟨(u - x.x).toNat, List.mem_range.2 (by omega), ?_⟩⟩
    rw [show x.x + ((u - x.x).toNat : Int) = u by omega, show x.y + ((v - x.y).toNat : Int) = v by omega, hb]
    rfl
theorem nums_nodup {s : Shape} {l : List Plate} {x : Laid} (ok : s.Ok) (hl : liesB s l x = true) : (numsL s l x).Pairwise (· ≠ ·) := by
  unfold numsL
  have inj : ∀ i j i' j', i < (sizeD l x).toNat → j < (sizeW l x).toNat → i' < (sizeD l x).toNat → j' < (sizeW l x).toNat →
      (s.num (x.x + (j : Int)) (x.y + (i : Int)) x.z).toNat = (s.num (x.x + (j' : Int)) (x.y + (i' : Int)) x.z).toNat → i = i' ∧ j = j' := fun i j i' j' h1 h2 h3 h4 e => by
    have a1 := (nums_num hl h1 h2).1
    have a2 := (nums_num hl h3 h4).1
    obtain ⟨e1, e2, -⟩ := s.num_inj ok a1 (show s.num (x.x + (j : Int)) (x.y + (i : Int)) x.z = s.num (x.x + (j' : Int)) (x.y + (i' : Int)) x.z by omega)
    omega
  rw [List.pairwise_flatMap]
  constructor
  · intro i hi
    rw [List.pairwise_map]
    refine List.Pairwise.imp_of_mem ?_ List.pairwise_lt_range
    intro j j' hj hj' hlt e
    have := (inj i j i j' (List.mem_range.1 hi) (List.mem_range.1 hj) (List.mem_range.1 hi) (List.mem_range.1 hj') e).2
    omega
  · refine List.Pairwise.imp_of_mem ?_ List.pairwise_lt_range
    intro i i' hi hi' hlt a ha b hb e
    obtain ⟨j, hj, rfl⟩ := List.mem_map.1 ha
    obtain ⟨j', hj', rfl⟩ := List.mem_map.1 hb
    have := (inj i j i' j' (List.mem_range.1 hi) (List.mem_range.1 hj) (List.mem_range.1 hi') (List.mem_range.1 hj') e).1
    omega
theorem nums_len (s : Shape) (l : List Plate) (x : Laid) : (numsL s l x).length = (sizeD l x).toNat * (sizeW l x).toNat := by
  unfold numsL
  rw [List.length_flatMap]
  simp only [List.length_map, List.length_range]
  rw [List.map_const', List.sum_replicate_nat, List.length_range]
theorem laid_area {l : List Plate} (okl : platesB l = true) {x : Laid} (hp : 0 ≤ x.plate ∧ x.plate < l.length) : (((sizeD l x).toNat * (sizeW l x).toNat : Nat) : Int) = areaI (plateAt l x.plate.toNat) := by
  have hget : l[x.plate.toNat]? = some (plateAt l x.plate.toNat) := by
    have hlt : x.plate.toNat < l.length := by omega
    have := List.getElem?_eq_getElem hlt
    rw [this, plateAt_eq this]
  have okp := plate_ok okl hget
  have h1 := okp.w
  have h2 := okp.d
  unfold sizeW sizeD areaI
  rw [Int.natCast_mul]
  split
  · rw [Int.toNat_of_nonneg (by omega), Int.toNat_of_nonneg (by omega)]
  · rw [Int.toNat_of_nonneg (by omega), Int.toNat_of_nonneg (by omega), Int.mul_comm]
def areasC (l : List Plate) (c : List Laid) : List Int := c.map fun x => areaI (plateAt l x.plate.toNat)
theorem sum_cast (f : Nat → Nat) : ∀ q : List Nat, (((q.map f).sum : Nat) : Int) = (q.map fun k => (f k : Int)).sum
  | [] => rfl
  | k :: q => by
    rw [List.map_cons, List.map_cons, List.sum_cons, List.sum_cons, ← sum_cast f q]
    omega
/-- The plates of a composition come to just the full cells. -/
theorem comp_area {s : Shape} {l : List Plate} {c : List Laid} (ok : s.Ok) (okl : platesB l = true) (h : compB s l c = true) : (areasC l c).sum = fullN s.cells := by
  rw [← set_comp ok] at h
  unfold setB at h
  split at h
  · cases h
  · rename_i st hst
    obtain ⟨out, all⟩ := st
    have hall : all = 2 ^ fullN s.cells - 1 := by simpa using h
    have his := setRun_is hst
    have hlies : ∀ k, k < c.length → liesB s l (laidAt c k) = true := fun k hk => his.lies hk
    -- all numbers, plate by plate
    have nd : ((List.range c.length).flatMap fun k => numsL s l (laidAt c k)).Pairwise (· ≠ ·) := by
      rw [List.pairwise_flatMap]
      constructor
      · intro k hk
        exact nums_nodup ok (hlies k (List.mem_range.1 hk))
      · refine List.Pairwise.imp_of_mem ?_ List.pairwise_lt_range
        intro k k' hk hk' hlt a ha b hb e
        subst e
        have hk := List.mem_range.1 hk
        have hk' := List.mem_range.1 hk'
        exact his.apart k k' hlt hk' a ((nums_mem ok (hlies k hk) (his.cover k hk)).1 ha) ((nums_mem ok (hlies k' hk') (his.cover k' hk')).1 hb)
    have pm : ((List.range c.length).flatMap fun k => numsL s l (laidAt c k)).Perm (List.range (fullN s.cells)) := by
      rw [List.perm_ext_iff_of_nodup nd List.nodup_range]
      intro b
      rw [List.mem_range, List.mem_flatMap]
      constructor
      · rintro ⟨k, hk, hb⟩
        have hk := List.mem_range.1 hk
        exact (cover_lt ok (his.cover k hk) ((nums_mem ok (hlies k hk) (his.cover k hk)).1 hb)).1
      · intro hb
        have : all.testBit b = true := by
          rw [hall, Nat.testBit_two_pow_sub_one]
          simpa using hb
        obtain ⟨k, hk, e⟩ := (his.bits b).1 this
        exact ⟨k, List.mem_range.2 hk, (nums_mem ok (hlies k hk) (his.cover k hk)).2 e⟩
    have hl := pm.length_eq
    rw [List.length_range, List.length_flatMap] at hl
    rw [← hl, sum_cast]
    have e : areasC l c = (List.range c.length).map fun k => areaI (plateAt l (laidAt c k).plate.toNat) := by
      unfold areasC
      apply List.ext_getElem (by simp)
      intro k h1 h2
      have hk : k < c.length := by simpa using h1
      simp only [List.getElem_map, List.getElem_range]
      rw [laidAt_eq (List.getElem?_eq_getElem hk)]
    rw [e]
    congr 1
    apply List.map_congr_left
    intro k hk
    rw [nums_len, laid_area okl (cover_plate (his.cover k (List.mem_range.1 hk)))]
/-- A composition's plates are some of those there are. -/
theorem comp_sub {s : Shape} {l : List Plate} {c : List Laid} (ok : s.Ok) (okl : platesB l = true) (h : compB s l c = true) : ∃ r, (areasL l).Perm (areasC l c ++ r) := by
  rw [← set_comp ok] at h
  unfold setB at h
  split at h
  · cases h
  · rename_i st hst
    obtain ⟨out, all⟩ := st
    have his := setRun_is hst
    have hin : ∀ x ∈ c, 0 ≤ x.plate ∧ x.plate < l.length := fun x hx => by
      obtain ⟨k, hk⟩ := List.getElem?_of_mem hx
      have hlt : k < c.length := (List.getElem?_eq_some_iff.1 hk).1
      have := cover_plate (his.cover k hlt)
      rw [laidAt_eq hk] at this
      exact this
    obtain ⟨r, hr⟩ := sub_perm (b := c.map fun x => x.plate.toNat) (qs := (List.range l.length).flatMap fun i => List.replicate (plateAt l i).N.toNat i) (fun i => by
      by_cases hi : i < l.length
      · have hu := usedN_le_N okl his hi
        have e1 : (c.map fun x => x.plate.toNat).count i = usedN c c.length (i : Int) := by
          unfold usedN
          rw [List.take_length, List.count_eq_countP, List.countP_map]
          apply List.countP_congr
          intro x hx
          have := hin x hx
          simp
          omega
        have e2 : ((List.range l.length).flatMap fun i => List.replicate (plateAt l i).N.toNat i).count i = (plateAt l i).N.toNat := by
          have key : ∀ n, ((List.range n).flatMap fun i => List.replicate (plateAt l i).N.toNat i).count i = if i < n then (plateAt l i).N.toNat else 0 := by
            intro n
            induction n with
            | zero => rfl
            | succ n ih =>
              rw [List.range_succ, List.flatMap_append, List.count_append, ih]
              simp only [List.flatMap_cons, List.flatMap_nil, List.append_nil]
              rw [List.count_replicate]
              by_cases h1 : i < n
              · have h2 : ¬ n = i := by omega
                rw [if_pos h1, if_pos (show i < n + 1 by omega), if_neg (by simpa using h2), Nat.add_zero]
              · by_cases h2 : n = i
                · subst h2
                  rw [if_neg h1, if_pos (show n < n + 1 by omega), if_pos (by simp), Nat.zero_add]
                · rw [if_neg h1, if_neg (show ¬ i < n + 1 by omega), if_neg (by simpa using h2)]
          rw [key, if_pos hi]
        rw [e1, e2]
        omega
      · have : (c.map fun x => x.plate.toNat).count i = 0 := List.count_eq_zero.2 fun hm => by
          obtain ⟨x, hx, e⟩ := List.mem_map.1 hm
          have := hin x hx
          omega
        omega)
    refine ⟨r.map fun i => areaI (plateAt l i), ?_⟩
    have e : areasL l = ((List.range l.length).flatMap fun i => List.replicate (plateAt l i).N.toNat i).map fun i => areaI (plateAt l i) := by
      have el : l = (List.range l.length).map (plateAt l) := by
        apply List.ext_getElem (by simp)
        intro k h1 h2
        simp only [List.getElem_map, List.getElem_range]
        rw [plateAt_eq (List.getElem?_eq_getElem h1)]
      unfold areasL
      conv => lhs; rw [el]
      rw [List.flatMap_map, List.map_flatMap]
      congr 1
      funext i
      rw [List.map_replicate]
    rw [e]
    have := hr.map fun i => areaI (plateAt l i)
    rw [List.map_append, List.map_map] at this
    exact this
theorem areas_sum (l : List Plate) (okl : platesB l = true) : (areasL l).sum = (l.map fun p => p.N * areaI p).sum := by
  have hn : ∀ p ∈ l, 0 ≤ p.N := fun p hp => by
    obtain ⟨k, hk⟩ := List.getElem?_of_mem hp
    exact (plate_ok okl hk).n.1
  unfold areasL
  clear okl
  induction l with
  | nil => rfl
  | cons p l ih =>
    rw [List.flatMap_cons, List.sum_append, List.map_cons, List.sum_cons, ih fun q hq => hn q (by simp [hq])]
    congr 1
    have h0 := hn p (by simp)
    have key : ∀ n : Nat, (List.replicate n (areaI p)).sum = n * areaI p := by
      intro n
      induction n with
      | zero => simp
      | succ n ih =>
        rw [List.replicate_succ, List.sum_cons, ih]
        push_cast
        rw [Int.add_mul, Int.one_mul, Int.add_comm]
    rw [key, Int.toNat_of_nonneg h0]
end Go.Proofs.YtaaeapjnjjbglaaDoor

namespace Go.Proofs.YtaaeapjnjjbglaaDoor
open Go.RowKit

def uPass (ab : List Int) (out : List Nat) (m : Nat) : Nat := (List.range out.length).foldl (fun m k => if condU ab (outAt out k) m = true then m ||| outAt out k else m) m
def uRun (ab : List Int) (out : List Nat) : Nat → Nat → Nat
  | 0, m => m
  | f + 1, m => uRun ab out f (uPass ab out m)
/-- Whether all hang together, found by passes. -/
def hangV (s : Shape) (out : List Nat) : Option Bool :=
  if (List.range out.length).all (fun k => !condU (abv s) (outAt out k) (uRun (abv s) out out.length (outAt out 0))) = true then some (decide (pop (uRun (abv s) out out.length (outAt out 0)) = fullN s.cells)) else none
section
variable {s : Shape} {l : List Plate} {c : List Laid} {out : List Nat}
theorem InU.pass (ha : Apart s l c out) : ∀ (ks : List Nat) (m : Nat), (∀ k ∈ ks, k < c.length) → InU s l c out m → InU s l c out (ks.foldl (fun m k => if condU (abv s) (outAt out k) m = true then m ||| outAt out k else m) m)
  | [], _, _, h => h
  | k :: ks, m, hk, h => by
    rw [List.foldl_cons]
    refine InU.pass ha ks _ (fun j hj => hk j (by simp [hj])) ?_
    split
    · exact (InU.step ha h (hk k (by simp)) (by assumption)).1
    · exact h
theorem InU.run (ha : Apart s l c out) : ∀ (f m : Nat), InU s l c out m → InU s l c out (uRun (abv s) out f m)
  | 0, _, h => h
  | f + 1, _, h => InU.run ha f _ (InU.pass ha _ _ (fun k hk => by rw [← ha.len]; exact List.mem_range.1 hk) h)
theorem hangV_is (ha : Apart s l c out) {b : Bool} (h : hangV s out = some b) : hangB s l c = b := by
  unfold hangV at h
  split at h
  · rename_i hall
    cases h
    refine InU.done ha (InU.run ha _ _ (InU.start ha)) fun k hk => ?_
    have := List.all_eq_true.1 hall k (List.mem_range.2 (by rw [ha.len]; exact hk))
    simpa using this
  · cases h
end
def seeV (s : Shape) (st : Option (Option (List Laid × Nat))) (p : List Laid × List Nat) : Option (Option (List Laid × Nat)) :=
  match st, hangV s p.2 with
  | some st, some b => some (if b = true then (match st with
    | none => some (p.1, weakN s p.2)
    | some q => if p.1.length < q.1.length ∨ p.1.length = q.1.length ∧ weakN s p.2 < q.2 then some (p.1, weakN s p.2) else some q) else st)
  | _, _ => none
theorem seeV_none {s : Shape} : ∀ xs : List (List Laid × List Nat), xs.foldl (seeV s) none = none
  | [] => rfl
  | x :: xs => by
    rw [List.foldl_cons]
    exact seeV_none xs
theorem seeV_is {s : Shape} {l : List Plate} : ∀ (xs : List (List Laid × List Nat)) (st b : Option (List Laid × Nat)), (∀ p ∈ xs, Apart s l p.1 p.2) → xs.foldl (seeV s) (some st) = some b → xs.foldl (fun st p => seeB s l st p.1 p.2) st = b
  | [], st, b, _, h => by
    cases h
    rfl
  | p :: xs, st, b, ha, h => by
    rw [List.foldl_cons] at h ⊢
    cases hv : hangV s p.2 with
    | none =>
      have : seeV s (some st) p = none := by unfold seeV; rw [hv]
      rw [this, seeV_none] at h
      cases h
    | some v =>
      have e : seeV s (some st) p = some (seeB s l st p.1 p.2) := by
        unfold seeV seeB
        rw [hv, hangV_is (ha p (by simp)) hv]
        cases st with
        | none => rfl
        | some q =>
          simp only [better_iff]
      rw [e] at h
      exact seeV_is xs _ b (fun q hq => ha q (by simp [hq])) h
/-- The best one, found by calculation. -/
def bestV (s : Shape) (l : List Plate) : Option (Option (List Laid × Nat)) := (allComps s l).foldl (seeV s) (some none)
theorem all_apart {s : Shape} {l : List Plate} (ok : s.Ok) (okl : platesB l = true) {c : List Laid} {out : List Nat} (h : (c, out) ∈ allComps s l) : Apart s l c out := by
  have hr := (mem_all ok okl).1 h
  have hset := setRun_is hr
  exact apart_of ok okl (comp_pos ok (hset.comp ok rfl)) hset rfl
theorem bestV_is {s : Shape} {l : List Plate} (ok : s.Ok) (okl : platesB l = true) {b : Option (List Laid × Nat)} (h : bestV s l = some b) : bestB s l = b :=
  seeV_is _ _ _ (fun p hp => all_apart ok okl (c := p.1) (out := p.2) hp) h

def fourS : Shape := ⟨2, 1, 2, [3, 3, 3, 3]⟩
def pairS : Shape := ⟨2, 1, 1, [1, 2]⟩
def twoL (a b : Int) : List Plate := [⟨1, 1, a, 0⟩, ⟨1, 2, b, 0⟩]
def four4 : List Laid := [⟨0, 0, 0, 0, false⟩, ⟨0, 1, 0, 0, false⟩, ⟨0, 0, 0, 1, false⟩, ⟨0, 1, 0, 1, false⟩]
def best99 : List Laid := [⟨1, 0, 0, 0, true⟩, ⟨1, 0, 0, 1, true⟩]
def best91 : List Laid := [⟨0, 0, 0, 0, false⟩, ⟨0, 1, 0, 0, false⟩, ⟨1, 0, 0, 1, true⟩]
theorem four_valid : fourS.valid = true := by decide +kernel
theorem pair_valid : pairS.valid = true := by decide +kernel
theorem two99_ok : platesB (twoL 9 9) = true := by decide +kernel
theorem two91_ok : platesB (twoL 9 1) = true := by decide +kernel
theorem four_count : (allComps fourS (twoL 9 9)).length = 4 := by decide +kernel
theorem four_best : bestB fourS (twoL 9 9) = some (best99, 0) := bestV_is (Shape.ok_of four_valid) two99_ok (by kernel_rfl)
theorem four_best1 : bestB fourS (twoL 9 1) = some (best91, 0) := bestV_is (Shape.ok_of four_valid) two91_ok (by kernel_rfl)
theorem pair_best : bestB pairS (twoL 9 9) = none := bestV_is (Shape.ok_of pair_valid) two99_ok (by kernel_rfl)
theorem four_weak : weakR fourS (twoL 9 9) four4 = 1 ∧ compErr fourS (twoL 9 9) four4 = 0 := by decide +kernel
end Go.Proofs.YtaaeapjnjjbglaaDoor

namespace Go.Proofs.YtaaeapjnjjbglaaDoor
open Go.RowKit

theorem four_compose : composeE fourS (twoL 9 9) = 0 ∧ composeL fourS (twoL 9 9) = best99 := by
  have h : askErr fourS (twoL 9 9) = 0 := by decide +kernel
  unfold composeE composeL
  rw [h, four_best]
  exact ⟨rfl, rfl⟩
theorem four_compose1 : composeE fourS (twoL 9 1) = 0 ∧ composeL fourS (twoL 9 1) = best91 := by
  have h : askErr fourS (twoL 9 1) = 0 := by decide +kernel
  unfold composeE composeL
  rw [h, four_best1]
  exact ⟨rfl, rfl⟩
theorem pair_compose : composeE pairS (twoL 9 9) = 6 ∧ composeL pairS (twoL 9 9) = [] := by
  have h : askErr pairS (twoL 9 9) = 0 := by decide +kernel
  unfold composeE composeL
  rw [h, pair_best]
  exact ⟨rfl, rfl⟩
theorem four_countI : countI fourS (twoL 9 9) = 4 ∧ askErr fourS (twoL 9 9) = 0 := by decide +kernel
set_option maxRecDepth 100000 in
set_option maxHeartbeats 8000000 in
theorem alive_c (w : World) (hT : TzTab w) : Calls Tryd.prog 16 #[] w fun e w' => e = .returned (.bool true) ∧ Ext w w' := by
  go_enter Tryd.func16, Tryd.ntmps16
  go_wp2_with fail
  refine (four_c _).mono ?_
  rintro e w1 ⟨g1, rfl, hs1, E1⟩
  go_wp2_with fail
  refine (two_c 9 9 _).mono ?_
  rintro e w2 ⟨p2, rfl, hl2, E2⟩
  go_wp2_with fail
  have E := E1.trans E2
  refine (count_c fourS (some ⟨g1, 0, none⟩) 4 (twoL 9 9) (some ⟨p2, 0, none⟩) 2 _ (hs1.ext E2) hl2 (hT.ext E)).mono ?_
  rintro e w3 ⟨rfl, E3⟩
  rw [four_countI.1, four_countI.2]
  replace E := E.trans E3
  clear E1 E2 E3
  go_wp2_with fail
  refine (four_c _).mono ?_
  rintro e w4 ⟨g4, rfl, hs4, E4⟩
  go_wp2_with fail
  refine (two_c 9 9 _).mono ?_
  rintro e w5 ⟨p5, rfl, hl5, E5⟩
  replace E := (E.trans E4).trans E5
  go_wp2_with fail
  refine (compose_c fourS (some ⟨g4, 0, none⟩) 4 (twoL 9 9) (some ⟨p5, 0, none⟩) 2 _ (hs4.ext E5) hl5 (hT.ext E)).mono ?_
  rintro e w6 ⟨C6, cc6, rfl, hc6, -, E6⟩
  rw [four_compose.2] at hc6
  rw [four_compose.1, four_compose.2, show best99.length = 2 from rfl]
  replace E := E.trans E6
  clear E4 E5 E6 hs1 hl2 hs4 hl5
  go_wp2_with fail
  refine (four_c _).mono ?_
  rintro e w7 ⟨g7, rfl, hs7, E7⟩
  go_wp2_with fail
  refine (two_c 9 1 _).mono ?_
  rintro e w8 ⟨p8, rfl, hl8, E8⟩
  replace E := (E.trans E7).trans E8
  replace hc6 := hc6.ext (E7.trans E8)
  go_wp2_with fail
  refine (compose_c fourS (some ⟨g7, 0, none⟩) 4 (twoL 9 1) (some ⟨p8, 0, none⟩) 2 _ (hs7.ext E8) hl8 (hT.ext E)).mono ?_
  rintro e w9 ⟨C9, cc9, rfl, hc9, -, E9⟩
  rw [four_compose1.2] at hc9
  rw [four_compose1.1, four_compose1.2, show best91.length = 3 from rfl]
  replace E := E.trans E9
  replace hc6 := hc6.ext E9
  clear E7 E8 E9 hs7 hl8
  go_wp2_with fail
  refine (four_c _).mono ?_
  rintro e w10 ⟨g10, rfl, hs10, E10⟩
  go_wp2_with fail
  refine (two_c 9 9 _).mono ?_
  rintro e w11 ⟨p11, rfl, hl11, E11⟩
  replace E := (E.trans E10).trans E11
  replace hc6 := hc6.ext (E10.trans E11)
  replace hc9 := hc9.ext (E10.trans E11)
  replace hs10 := hs10.ext E11
  clear E10 E11
  go_wp2_with fail
  refine (at7_c _ _ _ _ _ _).mono ?_
  rintro e w12 ⟨rfl, E0⟩
  replace E := E.trans E0
  replace hc6 := hc6.ext E0
  replace hc9 := hc9.ext E0
  replace hs10 := hs10.ext E0
  replace hl11 := hl11.ext E0
  clear E0
  go_wp2_with fail
  refine (at7_c _ _ _ _ _ _).mono ?_
  rintro e w13 ⟨rfl, E0⟩
  replace E := E.trans E0
  replace hc6 := hc6.ext E0
  replace hc9 := hc9.ext E0
  replace hs10 := hs10.ext E0
  replace hl11 := hl11.ext E0
  clear E0
  go_wp2_with fail
  refine (at7_c _ _ _ _ _ _).mono ?_
  rintro e w14 ⟨rfl, E0⟩
  replace E := E.trans E0
  replace hc6 := hc6.ext E0
  replace hc9 := hc9.ext E0
  replace hs10 := hs10.ext E0
  replace hl11 := hl11.ext E0
  clear E0
  go_wp2_with fail
  refine (at7_c _ _ _ _ _ _).mono ?_
  rintro e w15 ⟨rfl, E0⟩
  replace E := E.trans E0
  replace hc6 := hc6.ext E0
  replace hc9 := hc9.ext E0
  replace hs10 := hs10.ext E0
  replace hl11 := hl11.ext E0
  clear E0
  have B16 := Blk.new w15 #[.int .i64 0, .int .i64 0, .int .i64 0, .int .i64 0, .bool false, .int .i64 0, .int .i64 1, .int .i64 0, .int .i64 0, .bool false, .int .i64 0, .int .i64 0, .int .i64 0, .int .i64 1, .bool false, .int .i64 0, .int .i64 1, .int .i64 0, .int .i64 1, .bool false] 64
  have E16 := ext_alloc w15 (.cells #[.int .i64 0, .int .i64 0, .int .i64 0, .int .i64 0, .bool false, .int .i64 0, .int .i64 1, .int .i64 0, .int .i64 0, .bool false, .int .i64 0, .int .i64 0, .int .i64 0, .int .i64 1, .bool false, .int .i64 0, .int .i64 1, .int .i64 0, .int .i64 1, .bool false] 64)
  have h16 : Laids _ (some ⟨w15.heap.size, 0, none⟩) 4 four4 := blk_slice B16 rfl (by decide +kernel) rfl (by show 4 ≤ maxLen; decide)
  replace E := E.trans E16
  replace hc6 := hc6.ext E16
  replace hc9 := hc9.ext E16
  go_wp2_with fail
  refine (weakTop_c fourS (some ⟨g10, 0, none⟩) 4 (twoL 9 9) (some ⟨p11, 0, none⟩) 2 four4 (some ⟨w15.heap.size, 0, none⟩) 4 (by decide) _ (hs10.ext E16) (hl11.ext E16) h16 (hT.ext E)).mono ?_
  rintro e w17 ⟨rfl, E17⟩
  rw [four_weak.1, four_weak.2]
  replace E := E.trans E17
  replace hc6 := hc6.ext E17
  replace hc9 := hc9.ext E17
  clear E16 E17 h16 B16 hs10 hl11
  have B17 := Blk.new w17 #[.int .u8 1, .int .u8 2] 5
  have E17 := ext_alloc w17 (.cells #[.int .u8 1, .int .u8 2] 5)
  have hs17 : Bytes _ (some ⟨w17.heap.size, 0, none⟩) 2 [1, 2] := ⟨blk_slice B17 rfl (by simp) rfl (by show 2 ≤ maxLen; decide), fun c hc => by
    simp only [List.mem_cons, List.not_mem_nil, or_false] at hc
    unfold byteOk
    omega⟩
  go_wp2_with fail
  refine (two_c 9 9 _).mono ?_
  rintro e w18 ⟨p18, rfl, hl18, E18⟩
  replace E := (E.trans E17).trans E18
  replace hc6 := hc6.ext (E17.trans E18)
  replace hc9 := hc9.ext (E17.trans E18)
  go_wp2_with fail
  refine (compose_c pairS (some ⟨w17.heap.size, 0, none⟩) 2 (twoL 9 9) (some ⟨p18, 0, none⟩) 2 _ (hs17.ext E18) hl18 (hT.ext E)).mono ?_
  rintro e w19 ⟨C19, cc19, rfl, -, -, E19⟩
  rw [pair_compose.1, pair_compose.2]
  replace E := E.trans E19
  replace hc6 := hc6.ext E19
  replace hc9 := hc9.ext E19
  clear E17 E18 E19 B17 hs17 hl18
  go_wp2_with fail
  refine (at7_c _ _ _ _ _ _).mono ?_
  rintro e w20 ⟨rfl, E0⟩
  replace E := E.trans E0
  replace hc6 := hc6.ext E0
  replace hc9 := hc9.ext E0
  clear E0
  go_wp2_with fail
  refine (at7_c _ _ _ _ _ _).mono ?_
  rintro e w21 ⟨rfl, E0⟩
  replace E := E.trans E0
  replace hc6 := hc6.ext E0
  replace hc9 := hc9.ext E0
  clear E0
  have B22 := Blk.new w21 #[.int .i64 1, .int .i64 0, .int .i64 0, .int .i64 0, .bool true, .int .i64 1, .int .i64 0, .int .i64 0, .int .i64 1, .bool true] 64
  have E22 := ext_alloc w21 (.cells #[.int .i64 1, .int .i64 0, .int .i64 0, .int .i64 0, .bool true, .int .i64 1, .int .i64 0, .int .i64 0, .int .i64 1, .bool true] 64)
  have h22 : Laids _ (some ⟨w21.heap.size, 0, none⟩) 2 best99 := blk_slice B22 rfl (by decide +kernel) rfl (by show 2 ≤ maxLen; decide)
  replace E := E.trans E22
  replace hc6 := hc6.ext E22
  replace hc9 := hc9.ext E22
  go_wp2_with fail
  refine (sameLaid_c C6 (some ⟨w21.heap.size, 0, none⟩) 2 cc6 2 best99 rfl _ hc6 h22).mono ?_
  rintro e w23 ⟨rfl, E23⟩
  replace E := E.trans E23
  replace hc9 := hc9.ext E23
  clear hc6 h22 E22 E23 B22
  go_wp2_with fail
  refine (at7_c _ _ _ _ _ _).mono ?_
  rintro e w24 ⟨rfl, E0⟩
  replace E := E.trans E0
  replace hc9 := hc9.ext E0
  clear E0
  go_wp2_with fail
  refine (at7_c _ _ _ _ _ _).mono ?_
  rintro e w25 ⟨rfl, E0⟩
  replace E := E.trans E0
  replace hc9 := hc9.ext E0
  clear E0
  go_wp2_with fail
  refine (at7_c _ _ _ _ _ _).mono ?_
  rintro e w26 ⟨rfl, E0⟩
  replace E := E.trans E0
  replace hc9 := hc9.ext E0
  clear E0
  have B27 := Blk.new w26 #[.int .i64 0, .int .i64 0, .int .i64 0, .int .i64 0, .bool false, .int .i64 0, .int .i64 1, .int .i64 0, .int .i64 0, .bool false, .int .i64 1, .int .i64 0, .int .i64 0, .int .i64 1, .bool true] 64
  have E27 := ext_alloc w26 (.cells #[.int .i64 0, .int .i64 0, .int .i64 0, .int .i64 0, .bool false, .int .i64 0, .int .i64 1, .int .i64 0, .int .i64 0, .bool false, .int .i64 1, .int .i64 0, .int .i64 0, .int .i64 1, .bool true] 64)
  have h27 : Laids _ (some ⟨w26.heap.size, 0, none⟩) 3 best91 := blk_slice B27 rfl (by decide +kernel) rfl (by show 3 ≤ maxLen; decide)
  replace E := E.trans E27
  replace hc9 := hc9.ext E27
  go_wp2_with fail
  refine (sameLaid_c C9 (some ⟨w26.heap.size, 0, none⟩) 3 cc9 3 best91 rfl _ hc9 h27).mono ?_
  rintro e w28 ⟨rfl, E28⟩
  replace E := E.trans E28
  go_wp2_with fail
  go_ret
  exact ⟨rfl, E⟩
end Go.Proofs.YtaaeapjnjjbglaaDoor

namespace Go.Proofs.YtaaeapjnjjbglaaDoor
open Go.RowKit

theorem comp_all3 {s : Shape} {l : List Plate} {c : List Laid} (h : compErr s l c = 0) : s.valid = true ∧ platesB l = true ∧ compB s l c = true := by
  unfold compErr at h
  split at h
  · split at h
    · split at h
      · exact ⟨by assumption, by assumption, by assumption⟩
      · omega
    · omega
  · omega
theorem least_sum {l : List Plate} (okl : platesB l = true) (r : List Int) {b : List Int} (h : (areasL l).Perm (b ++ r)) : b.sum ≤ (areasL l).sum := by
  have hr : 0 ≤ r.sum := sum_nonneg fun a ha => areas_pos okl a (h.mem_iff.2 (List.mem_append.2 (Or.inr ha)))
  rw [sum_perm h, List.sum_append]
  omega
/-- A composition has at least as many plates. -/
theorem least_comp {s : Shape} {l : List Plate} {c : List Laid} (h : compErr s l c = 0) : askErr s l = 0 ∧ leastE s l = 0 ∧ leastI s l ≤ c.length := by
  obtain ⟨hv, okl, hc⟩ := comp_all3 h
  have ok := Shape.ok_of hv
  have ha : askErr s l = 0 := by
    unfold askErr platesErr
    rw [if_pos hv, if_pos okl]
  obtain ⟨r, hr⟩ := comp_sub ok okl hc
  have h1 := comp_area ok okl hc
  have h2 := least_sum okl r hr
  cases ho : leastO s l with
  | none =>
    have := (least_none okl ok.full.1).1 ho
    omega
  | some n =>
    obtain ⟨e1, e2⟩ := least_got ha ho
    have := least_le ok.full.1 hr (by omega) ho
    refine ⟨ha, e2, ?_⟩
    rw [e1]
    unfold areasC at this
    rw [List.length_map] at this
    omega
/-- All cells that there are. -/
def allI (l : List Plate) (k : Nat) : Int := ((l.take k).map fun p => p.N * areaI p).sum
theorem allI_succ {l : List Plate} {k : Nat} {p : Plate} (h : l[k]? = some p) : allI l (k + 1) = allI l k + p.N * areaI p := by
  unfold allI
  rw [List.take_add_one, h, Option.toList_some, List.map_append, List.sum_append]
  simp
theorem allI_in {l : List Plate} (okl : platesB l = true) : ∀ k, 0 ≤ allI l k ∧ allI l k ≤ 6336 * k
  | 0 => by simp [allI]
  | k + 1 => by
    have h := allI_in okl k
    rcases Nat.lt_or_ge k l.length with hk | hk
    · have hp := List.getElem?_eq_getElem hk
      have pok := plate_ok okl hp
      have h1 := pok.w
      have h2 := pok.d
      have h3 := pok.n
      have e1 : 0 ≤ areaI l[k] := Int.mul_nonneg (by omega) (by omega)
      have e2 : areaI l[k] ≤ 8 * 8 := Int.mul_le_mul (by omega) (by omega) (by omega) (by omega)
      have e3 : 0 ≤ l[k].N * areaI l[k] := Int.mul_nonneg (by omega) e1
      have e4 : l[k].N * areaI l[k] ≤ 99 * 64 := Int.mul_le_mul (by omega) (by omega) e1 (by omega)
      rw [allI_succ hp]
      omega
    · have e : allI l (k + 1) = allI l k := by
        unfold allI
        rw [List.take_of_length_le hk, List.take_of_length_le (by omega)]
      rw [e]
      omega
theorem least_all {s : Shape} {l : List Plate} (h : askErr s l = 0) : (leastE s l = 0 ∧ ¬ allI l l.length < fullN s.cells) ∨ (leastE s l = 6 ∧ allI l l.length < fullN s.cells) := by
  have hv : s.valid = true ∧ platesB l = true := by
    unfold askErr platesErr at h
    split at h
    · split at h
      · exact ⟨by assumption, by assumption⟩
      · omega
    · omega
  have ok := Shape.ok_of hv.1
  have e : allI l l.length = (areasL l).sum := by
    rw [areas_sum l hv.2]
    unfold allI
    rw [List.take_length]
  have hn := least_none hv.2 ok.full.1
  cases ho : leastO s l with
  | none => exact Or.inr ⟨(least_not h ho).2, by rw [e]; exact hn.1 ho⟩
  | some n => exact Or.inl ⟨(least_got h ho).2, by rw [e]; intro hlt; rw [hn.2 hlt] at ho; cases ho⟩
theorem ask_in {s : Shape} {l : List Plate} : askErr s l = 0 ∨ askErr s l = 70 ∨ askErr s l = 71 := by
  unfold askErr platesErr
  split
  · split
    · exact Or.inl rfl
    · exact Or.inr (Or.inr rfl)
  · exact Or.inr (Or.inl rfl)
set_option maxRecDepth 100000 in
set_option maxHeartbeats 4000000 in
theorem leastLaw_walk (s : Shape) (A : Option Addr) (cap : Nat) (l : List Plate) (PA : Option Addr) (pcap : Nat) (c : List Laid) (CA : Option Addr) (ccap : Nat) (w : World) (hs : Bytes w A cap s.cells) (hl : Plates w PA pcap l) (hcs : Laids w CA ccap c) (hT : TzTab w) :
    Calls Tryd.prog 4 #[.agg #[.int .i64 s.W, .int .i64 s.D, .int .i64 s.H, .slice A s.cells.length cap], .slice PA l.length pcap, .slice CA c.length ccap] w fun e w' => e = .returned (.bool true) ∧ Ext w w' := by
  have hn1 := hs.len
  have hn2 := hl.len
  have hn3 : c.length ≤ maxLen := Nat.le_trans hcs.le hcs.small
  have CM := Lib.hid (fun W => much_c s.W s.D s.H A PA CA s.cells.length l.length c.length cap pcap ccap hn1 hn2 hn3 W)
  unfold maxLen at hn1 hn2 hn3
  obtain ⟨W1, hW1, E1, B1, hz1⟩ := box_ w #[.int .i64 s.W, .int .i64 s.D, .int .i64 s.H, .slice A s.cells.length cap] 24
  obtain ⟨mb, hmb⟩ : ∃ b, muchB s.cells.length l.length c.length = b := ⟨_, rfl⟩
  rw [hmb] at CM
  have Hmb := Lib.hid hmb
  have Hs := Lib.hid hs
  have Hl := Lib.hid hl
  have Hc := Lib.hid hcs
  clear hmb hs hl hcs
  go_enter Tryd.func4, Tryd.ntmps4
  go_wp2_with fail
  refine (alive_c _ (hT.ext E1)).mono ?_
  rintro e W2 ⟨rfl, E2⟩
  have HE2 := Lib.hid (E1.trans E2)
  have HB2 := Lib.hid (B1.ext E2)
  clear E1 E2 B1 hz1 hW1
  have b2 := HB2.out.cell
  go_wp2_with fail
  refine (CM.out _).mono ?_
  rintro e W3 ⟨rfl, E3⟩
  have HE3 := Lib.hid (HE2.out.trans E3)
  have HB3 := Lib.hid (HB2.out.ext E3)
  clear E3 b2
  have b3 := HB3.out.cell
  cases mb
  · have hmuch := Hmb.out
    unfold muchB at hmuch
    simp only [Bool.or_eq_false_iff, decide_eq_false_iff_not] at hmuch
    have hcl : c.length ≤ 30 := by omega
    have hll : l.length ≤ 20 := by omega
    clear hmuch
    have CLs := least_c s A cap l PA pcap W3 (Hs.out.ext HE3.out) (Hl.out.ext HE3.out)
    obtain ⟨lI, hlI⟩ : ∃ v, leastI s l = v := ⟨_, rfl⟩
    obtain ⟨lE, hlE⟩ : ∃ v, leastE s l = v := ⟨_, rfl⟩
    rw [hlI, hlE] at CLs
    have HlI := Lib.hid hlI
    have HlE := Lib.hid hlE
    by_cases h0 : askErr s l = 0
    · have hcases := least_all h0
      rw [hlE] at hcases
      have Hcases := Lib.hid hcases
      have H0 := Lib.hid h0
      have CC := Lib.hid (fun (W : World) (E : Ext w W) => check_c s A cap l PA pcap c CA ccap (by omega) W (Hs.out.ext E) (Hl.out.ext E) (Hc.out.ext E))
      obtain ⟨ce, hce⟩ : ∃ v, compErr s l c = v := ⟨_, rfl⟩
      rw [hce] at CC
      have Hce := Lib.hid hce
      clear hlI hlE h0 hcases hce
      by_cases hc0 : ce = 0
      · subst hc0
        obtain ⟨-, q1, q2⟩ := least_comp Hce.out
        rw [HlE.out] at q1
        rw [HlI.out] at q2
        subst q1
        go_wp2_with fail
        refine CLs.mono ?_
        rintro e W4 ⟨rfl, E4⟩
        have HE4 := Lib.hid (HE3.out.trans E4)
        have HB4 := Lib.hid (HB3.out.ext E4)
        clear E4 b3 CLs
        have b4 := HB4.out.cell
        go_wp2_with fail
        refine (CC.out _ HE4.out).mono ?_
        rintro e W5 ⟨rfl, E5⟩
        have HE5 := Lib.hid (HE4.out.trans E5)
        have HB5 := Lib.hid (HB4.out.ext E5)
        clear E5 b4
        go_wp2_with fail
        go_ret
        exact ⟨by simp <;> omega, HE5.out⟩
      · have hc1 : (ce == 0) = false := by simpa using hc0
        have okl : platesB l = true := by
          have h := H0.out
          unfold askErr platesErr at h
          split at h
          · split at h
            · assumption
            · omega
          · omega
        have Hokl := Lib.hid okl
        have CF := Lib.hid (fun (W : World) (E : Ext w W) => rFull_c A cap s.W s.D s.H s.cells W (Hs.out.ext E))
        obtain ⟨F, hF⟩ : ∃ F : Int, (fullN s.cells : Int) = F := ⟨_, rfl⟩
        rw [hF] at CF
        have HF := Lib.hid hF
        have hlE06 : lE = 0 ∨ lE = 6 := Hcases.out.imp And.left And.left
        obtain ⟨aI, haI⟩ : ∃ v, allI l l.length = v := ⟨_, rfl⟩
        have hai := allI_in okl l.length
        have hl8 := (plates_len okl).2
        have Hgo : Hid ((lE = 0 ∧ ¬ aI < F) ∨ (lE = 6 ∧ aI < F)) := Lib.hid (by
          rw [← haI, ← hF]
          exact Hcases.out)
        have HaI := Lib.hid haI
        clear okl hF hc0 haI hlE06 hai
        rcases Hgo.out with ⟨rfl, hf⟩ | ⟨rfl, hf⟩
        · go_wp2_with fail
          refine CLs.mono ?_
          rintro e W4 ⟨rfl, E4⟩
          have HE4 := Lib.hid (HE3.out.trans E4)
          have HB4 := Lib.hid (HB3.out.ext E4)
          clear E4 b3 CLs
          have b4 := HB4.out.cell
          go_wp2_with fail
          refine (CC.out _ HE4.out).mono ?_
          rintro e W5 ⟨rfl, E5⟩
          have HE5 := Lib.hid (HE4.out.trans E5)
          have HB5 := Lib.hid (HB4.out.ext E5)
          clear E5 b4
          go_wp2_with fail
          go_loopw [10, 58] (fun al i wr => ∃ k : Nat, k ≤ l.length ∧ i = .int .i64 k ∧ al = .int .i64 (allI l k) ∧ Ext W5 wr) (fun _ i _ => l.length - (intOf i).toNat)
          case atStart => exact ⟨0, by omega, rfl, rfl, Ext.refl _⟩
          case round =>
            obtain ⟨k, hk, rfl, rfl, E⟩ := hrel
            by_cases hlt : k < l.length
            · obtain ⟨b, off, p, hPA, hp, hb, p0, p1, p2, p3⟩ := ((Hl.out.ext HE5.out).ext E).at_ hlt
              subst hPA
              have hin := allI_in Hokl.out k
              have hn := allI_succ hp
              have pok := plate_ok Hokl.out hp
              obtain ⟨pw, pd, pn, pc⟩ := p
              have h1 := pok.w
              have h2 := pok.d
              have h3 := pok.n
              simp only at h1 h2 h3 p0 p1 p2 p3
              have e1 : 0 ≤ pn * pw := Int.mul_nonneg (by omega) (by omega)
              have e2 : pn * pw ≤ 99 * 8 := Int.mul_le_mul (by omega) (by omega) (by omega) (by omega)
              have e3 : 0 ≤ pn * pw * pd := Int.mul_nonneg e1 (by omega)
              have e4 : pn * pw * pd ≤ 792 * 8 := Int.mul_le_mul (by omega) (by omega) (by omega) (by omega)
              have e5 : pn * areaI ⟨pw, pd, pn, pc⟩ = pn * pw * pd := (Int.mul_assoc pn pw pd).symm
              rw [e5] at hn
              obtain ⟨q1, hq1⟩ : ∃ v, pn * pw = v := ⟨_, rfl⟩
              rw [hq1] at e1 e2 e3 e4 hn
              obtain ⟨q2, hq2⟩ : ∃ v, q1 * pd = v := ⟨_, rfl⟩
              rw [hq2] at e3 e4 hn
              obtain ⟨a0, ha0⟩ : ∃ v, allI l k = v := ⟨_, rfl⟩
              rw [ha0] at hin hn ⊢
              have Hn := Lib.hid hn
              obtain ⟨V, hV, EV, BP, hzV⟩ := box_ wr #[.int .i64 pw, .int .i64 pd, .int .i64 pn, .int .u8 pc] 39
              have bP := BP.cell
              have lP := BP.lt
              have HEV := Lib.hid (E.trans EV)
              clear hn hp pok e5 ha0 E EV BP hzV
              go_wp2_with fail
              go_roundw
              case rel => exact ⟨k + 1, by omega, by go_num, by rw [Hn.out], HEV.out⟩
              case measure => simp only [intOf]; omega
            · obtain rfl : k = l.length := by omega
              rw [HaI.out]
              have b6 := (HB5.out.ext E).cell
              have HE6 := Lib.hid (HE5.out.trans E)
              clear E
              go_wp2_with fail
              refine (CF.out _ HE6.out).mono ?_
              rintro e W7 ⟨rfl, E7⟩
              go_wp2_with fail
              go_ret
              exact ⟨by simp [hf], HE6.out.trans E7⟩
        · go_wp2_with fail
          refine CLs.mono ?_
          rintro e W4 ⟨rfl, E4⟩
          have HE4 := Lib.hid (HE3.out.trans E4)
          have HB4 := Lib.hid (HB3.out.ext E4)
          clear E4 b3 CLs
          have b4 := HB4.out.cell
          go_wp2_with fail
          refine (CC.out _ HE4.out).mono ?_
          rintro e W5 ⟨rfl, E5⟩
          have HE5 := Lib.hid (HE4.out.trans E5)
          have HB5 := Lib.hid (HB4.out.ext E5)
          clear E5 b4
          go_wp2_with fail
          go_loopw [10, 58] (fun al i wr => ∃ k : Nat, k ≤ l.length ∧ i = .int .i64 k ∧ al = .int .i64 (allI l k) ∧ Ext W5 wr) (fun _ i _ => l.length - (intOf i).toNat)
          case atStart => exact ⟨0, by omega, rfl, rfl, Ext.refl _⟩
          case round =>
            obtain ⟨k, hk, rfl, rfl, E⟩ := hrel
            by_cases hlt : k < l.length
            · obtain ⟨b, off, p, hPA, hp, hb, p0, p1, p2, p3⟩ := ((Hl.out.ext HE5.out).ext E).at_ hlt
              subst hPA
              have hin := allI_in Hokl.out k
              have hn := allI_succ hp
              have pok := plate_ok Hokl.out hp
              obtain ⟨pw, pd, pn, pc⟩ := p
              have h1 := pok.w
              have h2 := pok.d
              have h3 := pok.n
              simp only at h1 h2 h3 p0 p1 p2 p3
              have e1 : 0 ≤ pn * pw := Int.mul_nonneg (by omega) (by omega)
              have e2 : pn * pw ≤ 99 * 8 := Int.mul_le_mul (by omega) (by omega) (by omega) (by omega)
              have e3 : 0 ≤ pn * pw * pd := Int.mul_nonneg e1 (by omega)
              have e4 : pn * pw * pd ≤ 792 * 8 := Int.mul_le_mul (by omega) (by omega) (by omega) (by omega)
              have e5 : pn * areaI ⟨pw, pd, pn, pc⟩ = pn * pw * pd := (Int.mul_assoc pn pw pd).symm
              rw [e5] at hn
              obtain ⟨q1, hq1⟩ : ∃ v, pn * pw = v := ⟨_, rfl⟩
              rw [hq1] at e1 e2 e3 e4 hn
              obtain ⟨q2, hq2⟩ : ∃ v, q1 * pd = v := ⟨_, rfl⟩
              rw [hq2] at e3 e4 hn
              obtain ⟨a0, ha0⟩ : ∃ v, allI l k = v := ⟨_, rfl⟩
              rw [ha0] at hin hn ⊢
              have Hn := Lib.hid hn
              obtain ⟨V, hV, EV, BP, hzV⟩ := box_ wr #[.int .i64 pw, .int .i64 pd, .int .i64 pn, .int .u8 pc] 39
              have bP := BP.cell
              have lP := BP.lt
              have HEV := Lib.hid (E.trans EV)
              clear hn hp pok e5 ha0 E EV BP hzV
              go_wp2_with fail
              go_roundw
              case rel => exact ⟨k + 1, by omega, by go_num, by rw [Hn.out], HEV.out⟩
              case measure => simp only [intOf]; omega
            · obtain rfl : k = l.length := by omega
              rw [HaI.out]
              have b6 := (HB5.out.ext E).cell
              have HE6 := Lib.hid (HE5.out.trans E)
              clear E
              go_wp2_with fail
              refine (CF.out _ HE6.out).mono ?_
              rintro e W7 ⟨rfl, E7⟩
              go_wp2_with fail
              go_ret
              exact ⟨by simp, HE6.out.trans E7⟩
    · obtain ⟨v1, v2⟩ := least_ask h0
      rw [hlI] at v1
      rw [hlE] at v2
      have h6 : lE ≠ 0 ∧ lE ≠ 6 := by
        rcases ask_in (s := s) (l := l) with h | h | h <;> omega
      have g1 : (lE != 0) = true := by simpa using h6.1
      have g2 : (lE != 6) = true := by simpa using h6.2
      subst v1
      clear hlI hlE h0 v2 h6
      go_wp2_with fail
      refine CLs.mono ?_
      rintro e W4 ⟨rfl, E4⟩
      go_wp2_with fail
      go_ret
      exact ⟨rfl, HE3.out.trans E4⟩
  · go_wp2_with fail
    go_ret
    exact ⟨rfl, HE3.out⟩
end Go.Proofs.YtaaeapjnjjbglaaDoor

namespace Go.Proofs.YtaaeapjnjjbglaaDoor
open Go.RowKit Go.ChangeShapes Go.WideShapes Go.ChangeAt Go.Deep Go.Joins

set_option maxRecDepth 100000 in
theorem leastLaw_lifted (os : Os) (started : os.Started) (H : Type) (enc : TypeId × Value → H) :
    ReturnsInHanded {} Tryd.checked os 4 .any (fun w args => (Rows.composeLeastSpec.pre enc Tryd.prog Tryd.f4 [] false w args ∧ laidMetH Tryd.prog laidTab w) ∧ sizedMet enc Tryd.prog Tryd.f4 (OpenSpec.ofChange Rows.composeLeastSpec) false w args)
      (Rows.composeLeastSpec.post enc Tryd.prog Tryd.f4 false true false false) := by
  refine returnsInHanded_of_change_and (C := Tryd.checked) (X := fun w _ => laidMetH Tryd.prog laidTab w) (fun _ _ _ hh h => h.of_heap hh) Tryd.own started (by kernel_rfl) Tryd.func4
    (ChangeSpec.witness_at (enc := enc) (C := Tryd.checked) (os := os) (X := fun w _ => laidMetH Tryd.prog laidTab w) false (laidWorld os) #[.agg #[.int .i64 0, .int .i64 0, .int .i64 0, .slice none 0 0], .slice none 0 0, .slice none 0 0] 8 rfl (by kernel_rfl) (by kernel_rfl) (by kernel_rfl) (by kernel_rfl) (by kernel_rfl) (laidWorld_met os _)) ?_
  intro W base args ds gs before hval0 hW _ _ hL _
  have hval : ∀ (j : Nat) t v, Tryd.f4.params[j]? = some t → args[j]? = some v → Value.okWide Tryd.prog W .any base t v := hval0
  have hW' := hW
  obtain ⟨p, q, hA0, hV, rfl, hfz, hnd⟩ := hW
  have hA : DataW.TrodAll enc Tryd.prog W 0 (fun _ => true) true Tryd.f4.params.toList args.toList ds p := hA0
  rw [Tryd.params4] at hA hval
  have hAll := hA
  obtain ⟨v0, v1, v2, d0, d1, d2, p0, p1, p2, rfl, rfl, rfl, h0, h1, h2⟩ := trodAll_three hA
  obtain ⟨rfl, rfl⟩ := trodVars_none hV
  obtain ⟨c0, c1, c2, c3, y0, y1, y2, y3, m, rfl, rfl, rfl, hy0, hy1, hy2, hy3⟩ := open_agg4 Tryd.underlying24 (by kernel_rfl) cells_shape (hval 0 24 v0 rfl rfl) h0
  obtain ⟨x, e0, e0', -⟩ := DataW.trod_int Tryd.underlying3 hy0
  obtain ⟨y, e1, e1', -⟩ := DataW.trod_int Tryd.underlying3 hy1
  obtain ⟨z, e2, e2', -⟩ := DataW.trod_int Tryd.underlying3 hy2
  simp at e0 e1 e2
  subst e0 e1 e2
  have hc3 : ∃ A n ca, c3 = .slice A n ca := by
    rcases open_slice Tryd.underlying22 hy3 with ⟨h, _⟩ | ⟨a, len, cap', _, _, _, _, h, _⟩
    · exact ⟨none, 0, 0, by simpa using h⟩
    · exact ⟨some a, len, cap', by simpa using h⟩
  obtain ⟨A, n, ca, rfl⟩ := hc3
  obtain ⟨cs, hcl, hcs⟩ := bytes_of_trod hy3
  obtain ⟨B, n1, cb, rfl⟩ := okWide_slice Tryd.underlying25 (hval 1 25 v1 rfl rfl)
  obtain ⟨C, n2, cc, rfl⟩ := okWide_slice Tryd.underlying27 (hval 2 27 v2 rfl rfl)
  obtain ⟨fu1, hf1⟩ := h1
  obtain ⟨fu2, hf2⟩ := h2
  obtain ⟨l, rfl, hpl⟩ := plates_of_trod (by simpa [Value.cells] using hf1)
  obtain ⟨ls, rfl, hla⟩ := laids_of_trod (by simpa [Value.cells] using hf2)
  subst hcl
  clear hA0 hval0
  simp only [List.append_nil] at hW' hAll
  have hlt : ∀ q ∈ (y0.2 ++ (y1.2 ++ (y2.2 ++ y3.2))) ++ p1 ++ p2, q.block < W.heap.size := fun q hq => hW'.lt q hq
  refine (leastLaw_walk ⟨x, y, z, cs⟩ A ca l B cb ls C cc W hcs hpl hla (tz_of_laid hL)).mono fun e W' ⟨he, hE⟩ => ?_
  subst he
  refine ⟨_, rfl, ?_⟩
  refine ⟨_, _, _, [], (y0.2 ++ (y1.2 ++ (y2.2 ++ y3.2))) ++ p1 ++ p2, [], hW', ?_, ?_, rfl, hE.frame _, fun h => by cases h⟩
  · exact trodAll_mk1 (shut_bool Tryd.underlying4 true)
  · exact trodAll_ext (ts := [24, 25, 27]) Tryd.laidOut hE (by
      intro t ht
      simp only [List.mem_cons, List.not_mem_nil, or_false] at ht
      rcases ht with rfl | rfl | rfl <;> exact ⟨by kernel_rfl, of_decide_eq_true (by kernel_rfl)⟩) hAll hlt

theorem composeLeast_row : Rows.ComposeLeastSaid :=
  OpenClaim.holds_of_wide 4 Tryd.f4 rfl rfl rfl rfl rfl rfl rfl ⟨rfl, rfl, rfl, rfl, rfl⟩ rfl rfl rfl rfl rfl (by kernel_rfl) Tryd.func4 (by kernel_rfl)
    (of_decide_eq_true (by kernel_rfl)) (by unfold Func.isWrapper; rw [if_neg (of_decide_eq_false (by kernel_rfl))]; exact ⟨rfl, rfl⟩)
    (fun os started H enc _ => leastLaw_lifted os started H enc)
theorem composeLeast_holds : Rows.ComposeLeastCardSaid :=
  Claim7.holds_tied_plain_at .later [] [.data] true Rows.composeLeastCard.stood.harness false
    composeLeast_row (fun _ h => by cases h) (by kernel_rfl) (fun _ h => by cases h) composeLeast_row_tie rfl ⟨rfl, rfl⟩ (by kernel_rfl) rfl
    (fun f fn hf hfn => by
      obtain rfl : f = 4 := Option.some.inj ((show Tryd.prog.funcNamed "studwork/studworklaw07.ComposeLeast" = some 4 by kernel_rfl).symm.trans hf) |>.symm
      obtain rfl : fn = Tryd.f4 := (Option.some.inj (Tryd.func4.symm.trans hfn)).symm
      exact ⟨by kernel_rfl, fun j t ht => by
        rw [Tryd.params4] at ht
        have ht := List.mem_of_getElem? (show ([24, 25, 27] : List TypeId)[j]? = some t by simpa using ht)
        simp only [List.mem_cons, List.not_mem_nil, or_false] at ht
        rcases ht with rfl | rfl | rfl
        · exact (show Tryd.prog.wantsStandIn 24 = false by kernel_rfl)
        · exact (show Tryd.prog.wantsStandIn 25 = false by kernel_rfl)
        · exact (show Tryd.prog.wantsStandIn 27 = false by kernel_rfl)⟩)
    (by kernel_rfl)
#print axioms composeLeast_holds
end Go.Proofs.YtaaeapjnjjbglaaDoor
