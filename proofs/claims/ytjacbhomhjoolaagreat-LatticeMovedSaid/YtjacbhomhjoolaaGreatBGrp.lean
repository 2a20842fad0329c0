/- Turns are a group, plain: composing is turning one after the other, the inverse undoes a turn; a closed set of turns has a number of elements that divides 24. Looking alike, plain: there is a step that brings the cells to the cells and the knobs among the knobs. -/
import Derived.Test.YtjacbhomhjoolaaGreatBTurnB
import Derived.Test.YtjacbhomhjoolaaGreatBOvN
import Derived.Test.YtjacbhomhjoolaaGreatBApi
namespace Go.Proofs.YtjacbhomhjoolaaGreat
open Go.RowKit

def sclP (k : Int) (p : Pt) : Pt := ⟨k * p.x, k * p.y, k * p.z⟩
theorem Pt.ext' {p q : Pt} (h1 : p.x = q.x) (h2 : p.y = q.y) (h3 : p.z = q.z) : p = q := by
  cases p
  cases q
  simp only at h1 h2 h3
  subst h1 h2 h3
  rfl
theorem rotZ_add (p q : Pt) : rotZ (addP p q) = addP (rotZ p) (rotZ q) := by
  refine Pt.ext' ?_ ?_ ?_
  · exact Int.neg_add
  · rfl
  · rfl
theorem rotZn_add (p q : Pt) : ∀ n, rotZn (addP p q) n = addP (rotZn p n) (rotZn q n)
  | 0 => rfl
  | n + 1 => by
    unfold rotZn
    rw [rotZn_add p q n, rotZ_add]
theorem turnQ_add (p q : Pt) (n : Nat) : turnQ (addP p q) n = addP (turnQ p n) (turnQ q n) := by
  unfold turnQ
  split <;> (refine Pt.ext' ?_ ?_ ?_ <;> (first | rfl | exact Int.neg_add))
theorem turnS_add (p q : Pt) (n : Nat) : turnS (addP p q) n = addP (turnS p n) (turnS q n) := by
  unfold turnS
  rw [rotZn_add, turnQ_add]
theorem rotZ_scl (k : Int) (p : Pt) : rotZ (sclP k p) = sclP k (rotZ p) := by
  refine Pt.ext' ?_ ?_ ?_
  · exact (Int.mul_neg _ _).symm
  · rfl
  · rfl
theorem rotZn_scl (k : Int) (p : Pt) : ∀ n, rotZn (sclP k p) n = sclP k (rotZn p n)
  | 0 => rfl
  | n + 1 => by
    unfold rotZn
    rw [rotZn_scl k p n, rotZ_scl]
theorem turnQ_scl (k : Int) (p : Pt) (n : Nat) : turnQ (sclP k p) n = sclP k (turnQ p n) := by
  unfold turnQ
  split <;> (refine Pt.ext' ?_ ?_ ?_ <;> (first | rfl | exact (Int.mul_neg _ _).symm))
theorem turnS_scl (k : Int) (p : Pt) (n : Nat) : turnS (sclP k p) n = sclP k (turnS p n) := by
  unfold turnS
  rw [rotZn_scl, turnQ_scl]
theorem pt_basis (p : Pt) : p = addP (sclP p.x ⟨1, 0, 0⟩) (addP (sclP p.y ⟨0, 1, 0⟩) (sclP p.z ⟨0, 0, 1⟩)) := by
  refine Pt.ext' ?_ ?_ ?_ <;> simp [addP, sclP]
theorem turnS_basis (p : Pt) (n : Nat) : turnS p n = addP (sclP p.x (turnS ⟨1, 0, 0⟩ n)) (addP (sclP p.y (turnS ⟨0, 1, 0⟩ n)) (sclP p.z (turnS ⟨0, 0, 1⟩ n))) :=
  (congrArg (fun q => turnS q n) (pt_basis p)).trans (by simp only [turnS_add, turnS_scl])
theorem comp_basis : ∀ a, a < 24 → ∀ b, b < 24 → turnS (turnS ⟨1, 0, 0⟩ a) b = turnS ⟨1, 0, 0⟩ (compT a b) ∧ turnS (turnS ⟨0, 1, 0⟩ a) b = turnS ⟨0, 1, 0⟩ (compT a b) ∧ turnS (turnS ⟨0, 0, 1⟩ a) b = turnS ⟨0, 0, 1⟩ (compT a b) := by
  have h : ∀ a, a < 24 → ∀ b, b < 24 → (turnS (turnS ⟨1, 0, 0⟩ a) b).eqB (turnS ⟨1, 0, 0⟩ (compT a b)) = true ∧ (turnS (turnS ⟨0, 1, 0⟩ a) b).eqB (turnS ⟨0, 1, 0⟩ (compT a b)) = true ∧ (turnS (turnS ⟨0, 0, 1⟩ a) b).eqB (turnS ⟨0, 0, 1⟩ (compT a b)) = true := by decide +kernel
  exact fun a ha b hb => ⟨Pt.eqB_iff.1 (h a ha b hb).1, Pt.eqB_iff.1 (h a ha b hb).2.1, Pt.eqB_iff.1 (h a ha b hb).2.2⟩
/-- Composing is turning one after the other. -/
theorem turnS_comp {a b : Nat} (ha : a < 24) (hb : b < 24) (p : Pt) : turnS (turnS p a) b = turnS p (compT a b) := by
  obtain ⟨h1, h2, h3⟩ := comp_basis a ha b hb
  rw [turnS_basis p a, turnS_add, turnS_add, turnS_scl, turnS_scl, turnS_scl, h1, h2, h3, ← turnS_basis p (compT a b)]
theorem compT_lt {a b : Nat} (ha : a < 24) (hb : b < 24) : compT a b < 24 := (compT_spec a ha b hb).2
/-- Different turns do different things. -/
theorem turnS_faith : ∀ a, a < 24 → ∀ b, b < 24 → turnS p123 a = turnS p123 b → a = b := by
  have h : ∀ a, a < 24 → ∀ b, b < 24 → (turnS p123 a).eqB (turnS p123 b) = true → a = b := by decide +kernel
  exact fun a ha b hb e => h a ha b hb (Pt.eqB_iff.2 e)
theorem compT_assoc {a b c : Nat} (ha : a < 24) (hb : b < 24) (hc : c < 24) : compT (compT a b) c = compT a (compT b c) := by
  refine turnS_faith _ (compT_lt (compT_lt ha hb) hc) _ (compT_lt ha (compT_lt hb hc)) ?_
  rw [← turnS_comp (compT_lt ha hb) hc, ← turnS_comp ha hb, turnS_comp hb hc, turnS_comp ha (compT_lt hb hc)]
theorem compT_zero : ∀ a, a < 24 → compT a 0 = a ∧ compT 0 a = a := by decide +kernel
theorem compT_inv : ∀ a, a < 24 → invT a < 24 ∧ compT a (invT a) = 0 ∧ compT (invT a) a = 0 := by decide +kernel
theorem turnS_zero (p : Pt) : turnS p 0 = p := rfl
theorem turnS_inv {a : Nat} (ha : a < 24) (p : Pt) : turnS (turnS p a) (invT a) = p := by
  rw [turnS_comp ha (compT_inv a ha).1, (compT_inv a ha).2.1, turnS_zero]
/-- The inverse is a power. -/
theorem inv_pow : ∀ a, a < 24 → (List.range 10).foldl (fun x _ => compT x a) a = invT a := by decide +kernel
theorem dirT_comp : ∀ d, d < 6 → ∀ a, a < 24 → ∀ b, b < 24 → dirT (dirT d a) b = dirT d (compT a b) := by decide +kernel
theorem stepS_dir : ∀ d, d < 6 → ∀ n, n < 24 → turnS (stepS d) n = stepS (dirT d n) := by
  have h : ∀ d, d < 6 → ∀ n, n < 24 → (turnS (stepS d) n).eqB (stepS (dirT d n)) = true := by decide +kernel
  exact fun d hd n hn => Pt.eqB_iff.1 (h d hd n hn)

/-! A closed set of turns. -/
structure Closed (H : Nat → Bool) : Prop where
  zero : H 0 = true
  comp : ∀ a b, a < 24 → b < 24 → H a = true → H b = true → H (compT a b) = true
theorem Closed.inv {H : Nat → Bool} (h : Closed H) {a : Nat} (ha : a < 24) (hH : H a = true) : H (invT a) = true := by
  rw [← inv_pow a ha]
  have key : ∀ n x, x < 24 → H x = true → (List.range n).foldl (fun x _ => compT x a) x < 24 ∧ H ((List.range n).foldl (fun x _ => compT x a) x) = true := by
    intro n
    induction n with
    | zero => exact fun x hx h => ⟨hx, h⟩
    | succ n ih =>
      intro x hx hHx
      rw [List.range_succ, List.foldl_append]
      obtain ⟨h1, h2⟩ := ih x hx hHx
      exact ⟨compT_lt h1 ha, h.comp _ _ h1 ha h2 hH⟩
  exact (key 10 a ha hH).2
/-- How many of the first 24. -/
def cnt (P : Nat → Bool) : Nat := ((List.range 24).filter P).length
/-- The numbers that are a times one of the set: as many as the set has. -/
theorem coset_cnt {H : Nat → Bool} {a : Nat} (ha : a < 24) : cnt (fun x => H (compT (invT a) x)) = cnt H := by
  have hi := compT_inv a ha
  have h1 : (((List.range 24).filter H).map fun x => compT a x).Perm ((List.range 24).filter fun x => H (compT (invT a) x)) := by
    refine (List.perm_ext_iff_of_nodup ?_ (List.nodup_range.filter _)).2 fun x => ?_
    · unfold List.Nodup
      rw [List.pairwise_map]
      refine (List.nodup_range.filter H).imp_of_mem fun {x y} hx hy hne e => hne ?_
      have hx' := List.mem_range.1 (List.mem_filter.1 hx).1
      have hy' := List.mem_range.1 (List.mem_filter.1 hy).1
      have := congrArg (compT (invT a)) e
      rwa [← compT_assoc hi.1 ha hx', ← compT_assoc hi.1 ha hy', hi.2.2, (compT_zero x hx').2, (compT_zero y hy').2] at this
    · rw [List.mem_map, List.mem_filter, List.mem_range]
      constructor
      · rintro ⟨y, hy, rfl⟩
        obtain ⟨hy1, hy2⟩ := List.mem_filter.1 hy
        rw [List.mem_range] at hy1
        exact ⟨compT_lt ha hy1, by rw [← compT_assoc hi.1 ha hy1, hi.2.2, (compT_zero y hy1).2]; exact hy2⟩
      · rintro ⟨h1, h2⟩
        exact ⟨compT (invT a) x, List.mem_filter.2 ⟨List.mem_range.2 (compT_lt hi.1 h1), h2⟩, by rw [← compT_assoc ha hi.1 h1, hi.2.1, (compT_zero x h1).2]⟩
  have := h1.length_eq
  rw [List.length_map] at this
  exact this.symm
theorem cnt_split (P Q : Nat → Bool) (h : ∀ x, x < 24 → Q x = true → P x = true) : cnt P = cnt Q + cnt fun x => P x && !Q x := by
  unfold cnt
  have : ∀ l : List Nat, (∀ x ∈ l, Q x = true → P x = true) → (l.filter P).length = (l.filter Q).length + (l.filter fun x => P x && !Q x).length := by
    intro l
    induction l with
    | nil => exact fun _ => rfl
    | cons x l ih =>
      intro hl
      have h1 := ih fun y hy => hl y (List.mem_cons_of_mem _ hy)
      have h2 := hl x (List.mem_cons_self ..)
      cases hq : Q x
      · cases hp : P x <;> simp [hq, hp, h1] <;> omega
      · rw [hq] at h2
        simp [hq, h2 rfl, h1]
        omega
  exact this _ fun x hx => h x (List.mem_range.1 hx)
/-- **The number of a closed set divides 24.** -/
theorem Closed.divides {H : Nat → Bool} (h : Closed H) : 24 % cnt H = 0 := by
  have key : ∀ m (P : Nat → Bool), cnt P ≤ m → (∀ a x, a < 24 → x < 24 → P a = true → H (compT (invT a) x) = true → P x = true) → (∀ a x, a < 24 → x < 24 → P x = true → H (compT (invT a) x) = true → P a = true) → cnt P % cnt H = 0 := by
    intro m
    induction m with
    | zero =>
      intro P hP _ _
      rw [Nat.le_zero.1 hP]
      exact Nat.zero_mod _
    | succ m ih =>
      intro P hP h1 h2
      by_cases h0 : ∃ a, a < 24 ∧ P a = true
      · obtain ⟨a, ha, hPa⟩ := h0
        have hi := compT_inv a ha
        have hs := cnt_split P (fun x => H (compT (invT a) x)) fun x hx hH => h1 a x ha hx hPa hH
        rw [coset_cnt ha] at hs
        have hpos : 0 < cnt H := by
          unfold cnt
          exact List.length_pos_of_mem (List.mem_filter.2 ⟨List.mem_range.2 (by omega : 0 < 24), h.zero⟩)
        -- b and x lie in one coset: so do a and b just if a and x do
        have tr : ∀ b x, b < 24 → x < 24 → H (compT (invT b) x) = true → H (compT (invT a) b) = true → H (compT (invT a) x) = true := fun b x hb hx h3 h4 => by
          have hb' := compT_inv b hb
          have := h.comp _ _ (compT_lt hi.1 hb) (compT_lt hb'.1 hx) h4 h3
          rwa [compT_assoc hi.1 hb (compT_lt hb'.1 hx), ← compT_assoc hb hb'.1 hx, hb'.2.1, (compT_zero x hx).2] at this
        have sy : ∀ b x, b < 24 → x < 24 → H (compT (invT b) x) = true → H (compT (invT x) b) = true := fun b x hb hx h3 => by
          have hb' := compT_inv b hb
          have hx' := compT_inv x hx
          have h4 := h.inv (compT_lt hb'.1 hx) h3
          have hq := compT_inv _ (compT_lt hb'.1 hx)
          have e : invT (compT (invT b) x) = compT (invT x) b := by
            have e1 : compT (compT (invT b) x) (compT (invT x) b) = 0 := by
              rw [compT_assoc hb'.1 hx (compT_lt hx'.1 hb), ← compT_assoc hx hx'.1 hb, hx'.2.1, (compT_zero b hb).2, hb'.2.2]
            have e2 := congrArg (compT (invT (compT (invT b) x))) e1
            rw [← compT_assoc hq.1 (compT_lt hb'.1 hx) (compT_lt hx'.1 hb), hq.2.2, (compT_zero _ (compT_lt hx'.1 hb)).2, (compT_zero _ hq.1).1] at e2
            exact e2.symm
          rwa [e] at h4
        have := ih (fun x => P x && !H (compT (invT a) x)) (by omega) (fun b x hb hx h3 h4 => by
          rw [Bool.and_eq_true, Bool.not_eq_true'] at h3 ⊢
          refine ⟨h1 b x hb hx h3.1 h4, ?_⟩
          cases h5 : H (compT (invT a) x)
          · rfl
          · have := tr x b hx hb (sy b x hb hx h4) h5
            rw [h3.2] at this
            cases this) (fun b x hb hx h3 h4 => by
          rw [Bool.and_eq_true, Bool.not_eq_true'] at h3 ⊢
          refine ⟨h2 b x hb hx h3.1 h4, ?_⟩
          cases h5 : H (compT (invT a) b)
          · rfl
          · have := tr b x hb hx h4 h5
            rw [h3.2] at this
            cases this)
        rw [hs, Nat.add_mod, Nat.mod_self, this]
        exact Nat.zero_mod _
      · have : cnt P = 0 := by
          unfold cnt
          rw [List.length_eq_zero_iff, List.filter_eq_nil_iff]
          exact fun x hx hp => h0 ⟨x, List.mem_range.1 hx, hp⟩
        rw [this]
        exact Nat.zero_mod _
  have := key 24 (fun _ => true) (List.length_filter_le _ _) (fun _ _ _ _ _ _ => rfl) (fun _ _ _ _ _ _ => rfl)
  exact this
end Go.Proofs.YtjacbhomhjoolaaGreat
namespace Go.Proofs.YtjacbhomhjoolaaGreat
open Go.RowKit

theorem ltP_shift (p q d : Pt) : ltP (addP p d) (addP q d) = ltP p q := by
  cases h : ltP p q
  · rw [ltP_not] at *
    unfold addP
    simp only
    omega
  · rw [ltP_iff] at *
    unfold addP
    simp only
    omega
theorem addP_assoc (p q r : Pt) : addP (addP p q) r = addP p (addP q r) := by
  unfold addP
  simp only [Pt.mk.injEq]
  omega
theorem addP_comm (p q : Pt) : addP p q = addP q p := by
  unfold addP
  simp only [Pt.mk.injEq]
  omega
theorem addP_zero (p : Pt) : addP p ⟨0, 0, 0⟩ = p := by
  cases p
  simp [addP]
theorem addP_sub (p q : Pt) : subP (addP p q) p = q := by
  cases q
  unfold addP subP
  simp only [Pt.mk.injEq]
  omega
theorem subP_add (p q : Pt) : addP p (subP q p) = q := by
  cases q
  unfold addP subP
  simp only [Pt.mk.injEq]
  omega
theorem placeP_shift (l : List Pt) (n : Nat) (p d : Pt) : placeP l n (addP p d) = (placeP l n p).map fun c => addP c d := by
  unfold placeP
  rw [List.map_map]
  exact List.map_congr_left fun c _ => (addP_assoc _ _ _).symm
theorem sortP_shift (l : List Pt) (d : Pt) : sortP (l.map fun c => addP c d) = (sortP l).map fun c => addP c d := by
  refine (sortP_is ((sortP_perm l).map _) ?_).symm
  rw [List.pairwise_map]
  exact (sortP_pairs l).imp fun {p q} h => by rw [ltP_shift]; exact h
theorem sortP_eq {l l' : List Pt} : sortP l = sortP l' ↔ l.Perm l' := by
  constructor
  · intro h
    have h1 := sortP_perm l
    rw [h] at h1
    exact h1.symm.trans (sortP_perm l')
  · intro h
    exact sortP_is ((sortP_perm l).trans h) (sortP_pairs l)
theorem placeP_comp {l : List Pt} {a b : Nat} (ha : a < 24) (hb : b < 24) (p q : Pt) : placeP (placeP l a p) b q = placeP l (compT a b) (addP (turnS p b) q) := by
  unfold placeP
  rw [List.map_map]
  refine List.map_congr_left fun c _ => ?_
  show addP (turnS (addP (turnS c a) p) b) q = _
  rw [turnS_add, turnS_comp ha hb, addP_assoc]
theorem knobT_comp {x : Knb} {a b : Nat} (ha : a < 24) (hb : b < 24) (hx : 0 ≤ x.dir ∧ x.dir ≤ 5) (p q : Pt) : knobT b q (knobT a p x) = knobT (compT a b) (addP (turnS p b) q) x := by
  unfold knobT
  simp only [Knb.mk.injEq, and_true]
  refine ⟨?_, ?_⟩
  · rw [turnS_add, turnS_comp ha hb, addP_assoc]
  · rw [Int.toNat_natCast, dirT_comp _ (by omega) a ha b hb]
theorem placeP_zero (l : List Pt) : placeP l 0 ⟨0, 0, 0⟩ = l := by
  unfold placeP
  refine (List.map_congr_left fun c _ => ?_).trans (List.map_id l)
  rw [turnS_zero, addP_zero]
  rfl
theorem dirT_zero : ∀ d, d < 6 → dirT d 0 = d := by decide +kernel
theorem knobT_zero {x : Knb} (hx : 0 ≤ x.dir ∧ x.dir ≤ 5) : knobT 0 ⟨0, 0, 0⟩ x = x := by
  obtain ⟨at_, d, s⟩ := x
  unfold knobT
  simp only [Knb.mk.injEq, and_true] at hx ⊢
  rw [turnS_zero, addP_zero, dirT_zero _ (by omega)]
  exact ⟨rfl, by omega⟩
theorem placeK_zero {l : List Knb} (h : ∀ x ∈ l, 0 ≤ x.dir ∧ x.dir ≤ 5) : placeK l 0 ⟨0, 0, 0⟩ = l := by
  unfold placeK
  refine (List.map_congr_left fun c hc => ?_).trans (List.map_id l)
  rw [knobT_zero (h c hc)]
  rfl
/-- A kind with turn n at place p looks like it does with turn m at place q. -/
structure Look (k : Knd) (n : Nat) (p : Pt) (m : Nat) (q : Pt) : Prop where
  c : (placeP k.cells n p).Perm (placeP k.cells m q)
  k : ∀ x ∈ placeK k.knobs n p, x ∈ placeK k.knobs m q
theorem likeB_look {k : Knd} {bt n : Nat} {p : Pt} (h : likeB k bt p n = true) : Look k n (likeAt k bt p n) bt p := by
  unfold likeB at h
  rw [Bool.and_eq_true, eqC_iff, sortP_eq, subK_iff] at h
  exact ⟨h.1, h.2⟩
theorem alikeLook {k : Knd} (hf : k.Fine) {bt n : Nat} {p d : Pt} (h : Look k n d bt p) : likeAt k bt p n = d := by
  have h1 := sortP_eq.2 h.c
  have h2 : placeP k.cells n d = (placeP k.cells n ⟨0, 0, 0⟩).map fun c => addP c d := by
    rw [← placeP_shift, addP_comm, addP_zero]
  rw [h2, sortP_shift] at h1
  unfold likeAt
  rw [← h1]
  have hl : 0 < (sortP (placeP k.cells n ⟨0, 0, 0⟩)).length := by rw [sortP_len, placeP_len]; exact hf.pos
  have e : ptAt ((sortP (placeP k.cells n ⟨0, 0, 0⟩)).map fun c => addP c d) 0 = addP (ptAt (sortP (placeP k.cells n ⟨0, 0, 0⟩)) 0) d := by
    have hg : (sortP (placeP k.cells n ⟨0, 0, 0⟩))[0]? = some ((sortP (placeP k.cells n ⟨0, 0, 0⟩))[0]'hl) := List.getElem?_eq_getElem hl
    rw [ptAt_eq hg, ptAt_eq (p := addP ((sortP (placeP k.cells n ⟨0, 0, 0⟩))[0]'hl) d) (by rw [List.getElem?_map, hg]; rfl)]
  rw [e, addP_sub]
theorem look_likeB {k : Knd} (hf : k.Fine) {bt n : Nat} {p d : Pt} (h : Look k n d bt p) : likeB k bt p n = true := by
  unfold likeB
  rw [alikeLook hf h, Bool.and_eq_true, eqC_iff, sortP_eq, subK_iff]
  exact ⟨h.c, h.k⟩
theorem Look.refl (k : Knd) (n : Nat) (p : Pt) : Look k n p n p := ⟨List.Perm.refl _, fun _ h => h⟩
theorem Look.trans {k : Knd} {a b c : Nat} {p q r : Pt} (h : Look k a p b q) (h' : Look k b q c r) : Look k a p c r := ⟨h.c.trans h'.c, fun x hx => h'.k x (h.k x hx)⟩
/-- Both turned and moved. -/
theorem Look.move {k : Knd} (hf : k.Fine) {a b t : Nat} (ha : a < 24) (hb : b < 24) (ht : t < 24) {p q : Pt} (h : Look k a p b q) (s : Pt) : Look k (compT a t) (addP (turnS p t) s) (compT b t) (addP (turnS q t) s) := by
  refine ⟨?_, ?_⟩
  · rw [← placeP_comp ha ht, ← placeP_comp hb ht]
    exact h.c.map _
  · intro x hx
    unfold placeK at hx ⊢
    obtain ⟨y, hy, rfl⟩ := List.mem_map.1 hx
    have h1 := h.k (knobT a p y) (List.mem_map.2 ⟨y, hy, rfl⟩)
    obtain ⟨z, hz, he⟩ := List.mem_map.1 h1
    refine List.mem_map.2 ⟨z, hz, ?_⟩
    rw [← knobT_comp ha ht (hf.knob y hy).2, ← knobT_comp hb ht (hf.knob z hz).2, he]
/-- The symmetries of a kind are a closed set. -/
theorem sym_closed {k : Knd} (hf : k.Fine) : Closed fun n => likeB k 0 ⟨0, 0, 0⟩ n := by
  refine ⟨look_likeB hf (Look.refl k 0 ⟨0, 0, 0⟩), fun a b ha hb h1 h2 => ?_⟩
  have l1 := likeB_look h1
  have l2 := likeB_look h2
  have l3 := l1.move hf ha (by omega) hb (likeAt k 0 ⟨0, 0, 0⟩ b)
  rw [(compT_zero b hb).2] at l3
  have e : addP (turnS ⟨0, 0, 0⟩ b) (likeAt k 0 ⟨0, 0, 0⟩ b) = likeAt k 0 ⟨0, 0, 0⟩ b := by
    rw [turnS_basis, addP_comm]
    have : addP (sclP (⟨0, 0, 0⟩ : Pt).x (turnS ⟨1, 0, 0⟩ b)) (addP (sclP (⟨0, 0, 0⟩ : Pt).y (turnS ⟨0, 1, 0⟩ b)) (sclP (⟨0, 0, 0⟩ : Pt).z (turnS ⟨0, 0, 1⟩ b))) = ⟨0, 0, 0⟩ := by simp [sclP, addP]
    rw [this, addP_zero]
  rw [e] at l3
  exact look_likeB hf (l3.trans l2)
end Go.Proofs.YtjacbhomhjoolaaGreat
