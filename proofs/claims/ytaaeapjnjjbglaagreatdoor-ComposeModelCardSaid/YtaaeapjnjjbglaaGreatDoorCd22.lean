/- A drawn region by an invariant over what has come up so far: one small goal for each operation serves every order. -/
import Derived.Test.YtaaeapjnjjbglaaGreatDoorCd1
import Derived.RegionIn

namespace Go.Proofs.YtaaeapjnjjbglaaGreatDoor
open Go.RowKit

/-- The frame with values put at the slots of some operations. -/
def putAll (us : Nat → Value) : List Oper → Nat → Act → Act
  | [], _, a => a
  | o :: l, i, a => putAll us l (i + 1) (a.put o.dst (us i))
/-- A function turned at one number. -/
def updF {α : Type} (f : Nat → α) (i : Nat) (v : α) : Nat → α := fun k => bif Nat.beq k i then v else f k
theorem updF_at {α : Type} (f : Nat → α) (i : Nat) (v : α) : updF f i v i = v := by simp [updF, Nat.beq_refl]
theorem updF_ne {α : Type} (f : Nat → α) {i k : Nat} (v : α) (h : k ≠ i) : updF f i v k = f k := by
  have : Nat.beq k i = false := by
    cases hb : Nat.beq k i
    · rfl
    · exact absurd (Nat.eq_of_beq_eq_true hb) h
  simp [updF, this]
theorem put_put (a : Act) (d : Tmp) (u v : Value) : (a.put (some d) u).put (some d) v = a.put (some d) v := by
  simp [Act.put]
theorem put_ne (a : Act) {x y : Option Tmp} (u v : Value) (h : ∀ d, x = some d → y ≠ some d) : (a.put x u).put y v = (a.put y v).put x u := by
  cases x with
  | none => rfl
  | some d =>
    cases y with
    | none => rfl
    | some e =>
      have : d ≠ e := fun he => h d rfl (by rw [he])
      simp [Act.put, Array.setIfInBounds_comm _ _ this]
def dsts (l : List Oper) : List Tmp := l.filterMap (·.dst)
theorem putAll_put {us : Nat → Value} {x : Option Tmp} (v : Value) : ∀ (l : List Oper) (i : Nat) (a : Act), (∀ d, x = some d → d ∉ dsts l) → putAll us l i (a.put x v) = (putAll us l i a).put x v
  | [], _, _, _ => rfl
  | o :: l, i, a, h => by
    show putAll us l (i + 1) ((a.put x v).put o.dst (us i)) = (putAll us l (i + 1) (a.put o.dst (us i))).put x v
    rw [put_ne, putAll_put v l (i + 1) _ fun d hd hm => h d hd (by
      unfold dsts at hm ⊢
      rw [List.filterMap_cons]
      split
      · exact hm
      · exact List.mem_cons_of_mem _ hm)]
    intro d hd he
    refine h d hd ?_
    unfold dsts
    rw [List.filterMap_cons, he]
    exact List.mem_cons_self ..
theorem putAll_congr {us vs : Nat → Value} : ∀ (l : List Oper) (i : Nat) (a : Act), (∀ k, i ≤ k → us k = vs k) → putAll us l i a = putAll vs l i a
  | [], _, _, _ => rfl
  | o :: l, i, a, h => by
    show putAll us l (i + 1) (a.put o.dst (us i)) = putAll vs l (i + 1) (a.put o.dst (vs i))
    rw [h i (Nat.le_refl _)]
    exact putAll_congr l (i + 1) _ fun k hk => h k (by omega)
theorem putAll_upd {us : Nat → Value} (v : Value) : ∀ (l : List Oper) (k : Nat) (a : Act) (j : Nat) (o : Oper), (dsts l).Nodup → l[j]? = some o → (putAll us l k a).put o.dst v = putAll (updF us (k + j) v) l k a
  | [], _, _, _, _, _, h => by simp at h
  | q :: l, k, a, 0, o, hn, h => by
    obtain rfl : q = o := by simpa using h
    show (putAll us l (k + 1) (a.put q.dst (us k))).put q.dst v = putAll (updF us (k + 0) v) l (k + 1) (a.put q.dst (updF us (k + 0) v k))
    have hx : ∀ d, q.dst = some d → d ∉ dsts l := fun d hd hm => by
      unfold dsts at hn hm
      rw [List.filterMap_cons, hd] at hn
      exact (List.nodup_cons.1 hn).1 hm
    have e0 : updF us (k + 0) v k = v := updF_at us k v
    rw [← putAll_put v l _ _ hx, e0]
    rw [putAll_congr (us := updF us (k + 0) v) (vs := us) l (k + 1) _ fun m hm => updF_ne _ _ (by omega)]
    congr 1
    cases hd : q.dst with
    | none => rfl
    | some d => exact put_put _ _ _ _
  | q :: l, k, a, j + 1, o, hn, h => by
    show (putAll us l (k + 1) (a.put q.dst (us k))).put o.dst v = putAll (updF us (k + (j + 1)) v) l (k + 1) (a.put q.dst (updF us (k + (j + 1)) v k))
    have hn' : (dsts l).Nodup := by
      unfold dsts at hn ⊢
      rw [List.filterMap_cons] at hn
      split at hn
      · exact hn
      · exact (List.nodup_cons.1 hn).2
    rw [putAll_upd v l (k + 1) _ j o hn' (by simpa using h), updF_ne _ _ (by omega), show k + 1 + j = k + (j + 1) from by omega]
theorem putAll_self : ∀ (l : List Oper) (k : Nat) (a : Act) (us : Nat → Value), (∀ j o, l[j]? = some o → ∀ d, o.dst = some d → us (k + j) = a.tmps.getD d undef) → putAll us l k a = a
  | [], _, _, _, _ => rfl
  | q :: l, k, a, us, h => by
    show putAll us l (k + 1) (a.put q.dst (us k)) = a
    have h0 : a.put q.dst (us k) = a := by
      cases hd : q.dst with
      | none => rfl
      | some d =>
        have := h 0 q rfl d hd
        rw [Nat.add_zero] at this
        rw [this]
        unfold Act.put
        simp only
        congr 1
        apply Array.ext_getElem?
        intro i
        rw [Array.getElem?_setIfInBounds]
        split
        · rename_i e
          subst e
          split
          · rename_i hlt
            simp [Array.getElem?_eq_getElem hlt]
          · rename_i hge
            rw [Array.getElem?_eq_none (by omega)]
        · rfl
    rw [h0]
    exact putAll_self l (k + 1) a us fun j o hj d hd => by
      have := h (j + 1) o (by simpa using hj) d hd
      rwa [show k + (j + 1) = k + 1 + j from by omega] at this

/-- The operations that must come up ahead of one. -/
def aheadOf (l : List Oper) (i : Nat) : List Nat := match l[i]? with
  | none => []
  | some o => (o.after.toList.filter fun e => Region.binds .any e).map (·.on)
/-- Each operation waits only for such as stand ahead of it in the text. -/
def Region.forthB (l : List Oper) : Bool := (List.range l.length).all fun i => (aheadOf l i).all fun k => decide (k < i)

section
variable {P : Program} {l : List Oper} {I : (Nat → Bool) → (Nat → Value) → World → Prop} {a0 : Act} {Q : Exit → Act → World → Prop}

/-- What is shown of one operation. -/
def OneOp (P : Program) (l : List Oper) (I : (Nat → Bool) → (Nat → Value) → World → Prop) (a0 : Act) (Q : Exit → Act → World → Prop) (o : Oper) (i : Nat) : Prop :=
  ∀ (L : Nat → Bool) (us : Nat → Value) (w : World) (K : Act → World → Prop) (a : Act), putAll us l 0 a0 = a → (∀ k, (aheadOf l i).contains k = true → L k = true) → (∀ j k, L j = true → (aheadOf l j).contains k = true → L k = true) → L i = false → I L us w →
    (∀ v w', I (updF L i true) (updF us i v) w' → K (a.put o.dst v) w') →
    if Region.wanted o (yielded l.toArray a.tmps) = true then Oper.wp P o a w K Q else K (a.put o.dst undef) w
def EachOp (P : Program) (l : List Oper) (I : (Nat → Bool) → (Nat → Value) → World → Prop) (a0 : Act) (Q : Exit → Act → World → Prop) : List Oper → Nat → Prop
  | [], _ => True
  | o :: r, i => OneOp P l I a0 Q o i ∧ EachOp P l I a0 Q r (i + 1)
theorem EachOp.at_ : ∀ {r : List Oper} {i : Nat}, EachOp P l I a0 Q r i → ∀ (j : Nat) (o : Oper), r[j]? = some o → OneOp P l I a0 Q o (i + j)
  | [], _, _, _, _, h => by simp at h
  | q :: r, i, h, 0, o, ho => by
    obtain rfl : q = o := by simpa using ho
    exact h.1
  | q :: r, i, h, j + 1, o, ho => by
    have := EachOp.at_ h.2 j o (by simpa using ho)
    rwa [show i + (j + 1) = i + 1 + j from by omega]

/-- What holds of the numbers that have come up. -/
def Down (l : List Oper) (L : Nat → Bool) : Prop := ∀ i k, L i = true → k ∈ aheadOf l i → L k = true
theorem ahead_ready {listed : Array Bool} {i : Nat} (h : i ∈ Region.ready .any l.toArray listed) : ∀ k ∈ aheadOf l i, listed.getD k false = true := fun k hk => by
  obtain ⟨-, o, ho, ha⟩ := mem_ready.1 h
  have ho' : l[i]? = some o := by simpa using ho
  unfold aheadOf at hk
  rw [ho'] at hk
  obtain ⟨e, he, rfl⟩ := List.mem_map.1 hk
  obtain ⟨he, hb⟩ := List.mem_filter.1 he
  exact ha e (by simpa using he) hb
theorem lt_all {n : Nat} {p : Nat → Prop} (h : ∀ i, i < n → (∀ k, k < i → p k) → p i) : ∀ i, i < n → p i := by
  intro i
  induction i using Nat.strongRecOn with
  | _ i ih => exact fun hi => h i hi fun k hk => ih k hk (by omega)
theorem none_ready {listed : Array Bool} (hf : Region.forthB l = true) (hz : listed.size = l.length) (h : Region.ready .any l.toArray listed = []) : ∀ i, i < l.length → listed.getD i false = true := by
  refine lt_all fun i hi hk => ?_
  by_cases hx : listed.getD i false = true
  · exact hx
  exfalso
  have hi' : i < listed.size := by omega
  have hm : i ∈ Region.ready .any l.toArray listed := by
    refine mem_ready.2 ⟨?_, l[i], by simp [hi], fun e he hb => hk e.on ?_⟩
    · simpa [Array.getElem?_eq_getElem hi'] using hx
    · unfold Region.forthB at hf
      rw [List.all_eq_true] at hf
      have := hf i (List.mem_range.2 hi)
      rw [List.all_eq_true] at this
      refine of_decide_eq_true (this e.on ?_)
      unfold aheadOf
      rw [List.getElem?_eq_getElem hi]
      exact List.mem_map.2 ⟨e, List.mem_filter.2 ⟨by simpa using he, hb⟩, rfl⟩
  rw [h] at hm
  cases hm
theorem listed_upd {listed : Array Bool} {i : Nat} (hi : i < listed.size) : (fun k => (listed.setIfInBounds i true).getD k false) = updF (fun k => listed.getD k false) i true := by
  funext k
  by_cases h : k = i
  · subst h
    rw [updF_at]
    simp [hi]
  · rw [updF_ne _ _ h]
    exact getD_set_ne false (Ne.symm h)
def fewer (listed : Array Bool) : Nat := (List.range listed.size).countP fun k => !listed.getD k false
theorem any_by (hn : (dsts l).Nodup) (hf : Region.forthB l = true) (hs : EachOp P l I a0 Q l 0) (he : ∀ L us w, (∀ k, k < l.length → L k = true) → I L us w → Q .normal (putAll us l 0 a0) w) :
    ∀ (fuel : Nat) (listed : Array Bool) (us : Nat → Value) (w : World), listed.size = l.length → (fuel = 0 → ∀ k, k < l.length → listed.getD k false = true) → (∀ k, k < l.length → listed.getD k false = false → ∃ f, fuel = f + 1) → 
      fewer listed ≤ fuel → Down l (fun k => listed.getD k false) → I (fun k => listed.getD k false) us w → wpAny P .any l.toArray Q fuel listed (putAll us l 0 a0) w := by
  intro fuel
  induction fuel with
  | zero =>
    intro listed us w hz h0 _ _ _ hI
    have hall := h0 rfl
    refine ⟨?_, he _ _ _ hall hI⟩
    rw [List.eq_nil_iff_forall_not_mem]
    intro i hi
    have hm := mem_ready.1 hi
    obtain ⟨hm, o, ho, -⟩ := hm
    have hlt : i < l.length := by
      have := (Array.getElem?_eq_some_iff.1 ho).1
      simpa using this
    have := hall i hlt
    have hi' : i < listed.size := by omega
    simp [Array.getElem?_eq_getElem hi'] at this hm
    rw [hm] at this
    cases this
  | succ fuel ih =>
    intro listed us w hz _ _ hfew hD hI
    refine ⟨fun hr => he _ _ _ (none_ready hf hz hr) hI, fun i hi => ?_⟩
    obtain ⟨hun, o, ho, -⟩ := mem_ready.1 hi
    have ho' : l[i]? = some o := by simpa using ho
    have hlt : i < l.length := (List.getElem?_eq_some_iff.1 ho').1
    have hi' : i < listed.size := by omega
    have hun' : listed.getD i false = false := by simpa [Array.getElem?_eq_getElem hi'] using hun
    have hgo := hs.at_ i o ho'
    rw [Nat.zero_add] at hgo
    have hah := ahead_ready hi
    refine wpOp_step ho fun K' hK' => ?_
    refine hgo _ us w K' _ rfl (fun k hk => ?_) (fun j k hj hk => ?_) hun' hI fun v w' hI' => ?_
    · exact hah k (by simpa using hk)
    · exact hD j k hj (by simpa using hk)
    · rw [putAll_upd v l 0 a0 i o hn ho', Nat.zero_add]
      refine hK' _ _ ?_
      have hle : fewer (listed.setIfInBounds i true) + 1 ≤ fewer listed := by
        unfold fewer
        rw [Array.size_setIfInBounds]
        have h1 : ∀ (r : List Nat), r.Nodup → i ∈ r → (r.countP fun k => !(listed.setIfInBounds i true).getD k false) + 1 ≤ r.countP fun k => !listed.getD k false := by
          intro r
          induction r with
          | nil => intro _ h; cases h
          | cons x r ihr =>
            intro hnd hm
            rw [List.countP_cons, List.countP_cons]
            obtain ⟨hx, hr⟩ := List.nodup_cons.1 hnd
            have mono : ∀ (r : List Nat), (r.countP fun k => !(listed.setIfInBounds i true).getD k false) ≤ r.countP fun k => !listed.getD k false := fun r => List.countP_mono_left fun k _ hk => by
              by_cases hki : k = i
              · subst hki
                simp [hun']
              · rw [getD_set_ne false (Ne.symm hki)] at hk
                exact hk
            rcases List.mem_cons.1 hm with rfl | hm
            · have e1 : (listed.setIfInBounds i true).getD i false = true := by simp [hi']
              have := mono r
              rw [e1, hun']
              simp only [Bool.not_true, Bool.not_false, if_true, Bool.false_eq_true, if_false]
              omega
            · have := ihr hr hm
              have hki : x ≠ i := fun e => hx (e ▸ hm)
              rw [getD_set_ne false (Ne.symm hki)]
              omega
        exact h1 _ List.nodup_range (List.mem_range.2 hi')
      have hpos : ∀ (m : Array Bool), m.size = l.length → ∀ k, k < l.length → m.getD k false = false → 0 < fewer m := fun m hm k hk hk' => by
        unfold fewer
        rw [List.countP_pos_iff]
        exact ⟨k, List.mem_range.2 (by omega), by simp only [hk', Bool.not_false]⟩
      have hz' : (listed.setIfInBounds i true).size = l.length := by rw [Array.size_setIfInBounds, hz]
      refine ih _ _ _ hz' (fun h0 k hk => ?_) (fun k hk hk' => ?_) (by omega) ?_ (by rw [listed_upd hi']; exact hI')
      · by_cases hx : (listed.setIfInBounds i true).getD k false = true
        · exact hx
        · have := hpos _ hz' k hk (by simpa using hx)
          omega
      · have := hpos _ hz' k hk hk'
        exact ⟨fuel - 1, by omega⟩
      · rw [listed_upd hi']
        intro j k hj hk
        by_cases hki : k = i
        · subst hki
          exact updF_at _ _ _
        · rw [updF_ne _ _ hki]
          by_cases hji : j = i
          · subst hji
            exact hah k hk
          · rw [updF_ne _ _ hji] at hj
            exact hD j k hj hk
/-- **A drawn region by an invariant.** -/
theorem wp_region_by {id : Nat} {w : World} (I : (Nat → Bool) → (Nat → Value) → World → Prop) (hm : P.follows .mixedOrders = true) (hn : decide (dsts l).Nodup = true) (hf : Region.forthB l = true)
    (h0 : ∀ us, I (fun _ => false) us w.drew) (hs : EachOp P l I a0 Q l 0) (he : ∀ L us w, (∀ k, k < l.length → L k = true) → I L us w → Q .normal (putAll us l 0 a0) w) : (Code.region id l.toArray true).wp P Q a0 w := by
  refine wp_region_any hm ?_
  have ea : putAll (fun k => ((l[k]?).bind (·.dst)).elim undef fun d => a0.tmps.getD d undef) l 0 a0 = a0 := putAll_self l 0 a0 _ fun j o hj d hd => by
    simp [hj, hd]
  have eL : (fun k => (Array.replicate l.toArray.size false).getD k false) = fun _ => false := by
    funext k
    rw [Array.getD_eq_getD_getElem?, Array.getElem?_replicate]
    split <;> rfl
  have := any_by (of_decide_eq_true hn) hf hs he l.toArray.size (Array.replicate l.toArray.size false) (fun k => ((l[k]?).bind (·.dst)).elim undef fun d => a0.tmps.getD d undef) w.drew (by simp) (fun h k hk => by simp at h; simp [h] at hk) (fun k hk _ => ⟨l.length - 1, by simp; omega⟩)
    (by unfold fewer; refine Nat.le_trans List.countP_le_length ?_; simp) (fun i k hi => by rw [eL] at hi; cases hi) (by rw [eL]; exact h0 _)
  rw [ea] at this
  exact this
end

/-! Inside a fence. -/
section
variable {F : Fence} {n : Nat} {P : Program} {l : List Oper} {I : (Nat → Bool) → (Nat → Value) → World → Prop} {a0 : Act} {Q : Exit → Act → World → Prop}
def OneOpIn (F : Fence) (n : Nat) (P : Program) (l : List Oper) (I : (Nat → Bool) → (Nat → Value) → World → Prop) (a0 : Act) (Q : Exit → Act → World → Prop) (o : Oper) (i : Nat) : Prop :=
  ∀ (L : Nat → Bool) (us : Nat → Value) (w : World) (K : Act → World → Prop) (a : Act), putAll us l 0 a0 = a → (∀ k, (aheadOf l i).contains k = true → L k = true) → (∀ j k, L j = true → (aheadOf l j).contains k = true → L k = true) → L i = false → I L us w →
    (∀ v w', I (updF L i true) (updF us i v) w' → K (a.put o.dst v) w') →
    if Region.wanted o (yielded l.toArray a.tmps) = true then Oper.wpIn F n P o a w K Q else (∀ f, o.about P w a.eval = some f → F.fn f) ∧ K (a.put o.dst undef) w
def EachOpIn (F : Fence) (n : Nat) (P : Program) (l : List Oper) (I : (Nat → Bool) → (Nat → Value) → World → Prop) (a0 : Act) (Q : Exit → Act → World → Prop) : List Oper → Nat → Prop
  | [], _ => True
  | o :: r, i => OneOpIn F n P l I a0 Q o i ∧ EachOpIn F n P l I a0 Q r (i + 1)
theorem EachOpIn.at_ : ∀ {r : List Oper} {i : Nat}, EachOpIn F n P l I a0 Q r i → ∀ (j : Nat) (o : Oper), r[j]? = some o → OneOpIn F n P l I a0 Q o (i + j)
  | [], _, _, _, _, h => by simp at h
  | q :: r, i, h, 0, o, ho => by
    obtain rfl : q = o := by simpa using ho
    exact h.1
  | q :: r, i, h, j + 1, o, ho => by
    have := EachOpIn.at_ h.2 j o (by simpa using ho)
    rwa [show i + (j + 1) = i + 1 + j from by omega]
theorem anyIn_by (hn : (dsts l).Nodup) (hf : Region.forthB l = true) (hs : EachOpIn F n P l I a0 Q l 0) (he : ∀ L us w, (∀ k, k < l.length → L k = true) → I L us w → Q .normal (putAll us l 0 a0) w) :
    ∀ (fuel : Nat) (listed : Array Bool) (us : Nat → Value) (w : World), listed.size = l.length → (fuel = 0 → ∀ k, k < l.length → listed.getD k false = true) → (∀ k, k < l.length → listed.getD k false = false → ∃ f, fuel = f + 1) → 
      fewer listed ≤ fuel → Down l (fun k => listed.getD k false) → I (fun k => listed.getD k false) us w → wpAnyIn F n P .any l.toArray Q fuel listed (putAll us l 0 a0) w := by
  intro fuel
  induction fuel with
  | zero =>
    intro listed us w hz h0 _ _ _ hI
    have hall := h0 rfl
    refine ⟨?_, he _ _ _ hall hI⟩
    rw [List.eq_nil_iff_forall_not_mem]
    intro i hi
    have hm := mem_ready.1 hi
    obtain ⟨hm, o, ho, -⟩ := hm
    have hlt : i < l.length := by
      have := (Array.getElem?_eq_some_iff.1 ho).1
      simpa using this
    have := hall i hlt
    have hi' : i < listed.size := by omega
    simp [Array.getElem?_eq_getElem hi'] at this hm
    rw [hm] at this
    cases this
  | succ fuel ih =>
    intro listed us w hz _ _ hfew hD hI
    refine ⟨fun hr => he _ _ _ (none_ready hf hz hr) hI, fun i hi => ?_⟩
    obtain ⟨hun, o, ho, -⟩ := mem_ready.1 hi
    have ho' : l[i]? = some o := by simpa using ho
    have hlt : i < l.length := (List.getElem?_eq_some_iff.1 ho').1
    have hi' : i < listed.size := by omega
    have hun' : listed.getD i false = false := by simpa [Array.getElem?_eq_getElem hi'] using hun
    have hgo := hs.at_ i o ho'
    rw [Nat.zero_add] at hgo
    have hah := ahead_ready hi
    refine wpOpIn_step ho fun K' hK' => ?_
    refine hgo _ us w K' _ rfl (fun k hk => ?_) (fun j k hj hk => ?_) hun' hI fun v w' hI' => ?_
    · exact hah k (by simpa using hk)
    · exact hD j k hj (by simpa using hk)
    · rw [putAll_upd v l 0 a0 i o hn ho', Nat.zero_add]
      refine hK' _ _ ?_
      have hle : fewer (listed.setIfInBounds i true) + 1 ≤ fewer listed := by
        unfold fewer
        rw [Array.size_setIfInBounds]
        have h1 : ∀ (r : List Nat), r.Nodup → i ∈ r → (r.countP fun k => !(listed.setIfInBounds i true).getD k false) + 1 ≤ r.countP fun k => !listed.getD k false := by
          intro r
          induction r with
          | nil => intro _ h; cases h
          | cons x r ihr =>
            intro hnd hm
            rw [List.countP_cons, List.countP_cons]
            obtain ⟨hx, hr⟩ := List.nodup_cons.1 hnd
            have mono : ∀ (r : List Nat), (r.countP fun k => !(listed.setIfInBounds i true).getD k false) ≤ r.countP fun k => !listed.getD k false := fun r => List.countP_mono_left fun k _ hk => by
              by_cases hki : k = i
              · subst hki
                simp [hun']
              · rw [getD_set_ne false (Ne.symm hki)] at hk
                exact hk
            rcases List.mem_cons.1 hm with rfl | hm
            · have e1 : (listed.setIfInBounds i true).getD i false = true := by simp [hi']
              have := mono r
              rw [e1, hun']
              simp only [Bool.not_true, Bool.not_false, if_true, Bool.false_eq_true, if_false]
              omega
            · have := ihr hr hm
              have hki : x ≠ i := fun e => hx (e ▸ hm)
              rw [getD_set_ne false (Ne.symm hki)]
              omega
        exact h1 _ List.nodup_range (List.mem_range.2 hi')
      have hpos : ∀ (m : Array Bool), m.size = l.length → ∀ k, k < l.length → m.getD k false = false → 0 < fewer m := fun m hm k hk hk' => by
        unfold fewer
        rw [List.countP_pos_iff]
        exact ⟨k, List.mem_range.2 (by omega), by simp only [hk', Bool.not_false]⟩
      have hz' : (listed.setIfInBounds i true).size = l.length := by rw [Array.size_setIfInBounds, hz]
      refine ih _ _ _ hz' (fun h0 k hk => ?_) (fun k hk hk' => ?_) (by omega) ?_ (by rw [listed_upd hi']; exact hI')
      · by_cases hx : (listed.setIfInBounds i true).getD k false = true
        · exact hx
        · have := hpos _ hz' k hk (by simpa using hx)
          omega
      · have := hpos _ hz' k hk hk'
        exact ⟨fuel - 1, by omega⟩
      · rw [listed_upd hi']
        intro j k hj hk
        by_cases hki : k = i
        · subst hki
          exact updF_at _ _ _
        · rw [updF_ne _ _ hki]
          by_cases hji : j = i
          · subst hji
            exact hah k hk
          · rw [updF_ne _ _ hji] at hj
            exact hD j k hj hk
theorem wpIn_region_by {id : Nat} {w : World} (I : (Nat → Bool) → (Nat → Value) → World → Prop) (hm : P.follows .mixedOrders = true) (hn : decide (dsts l).Nodup = true) (hf : Region.forthB l = true)
    (h0 : ∀ us, I (fun _ => false) us w.drew) (hs : EachOpIn F n P l I a0 Q l 0) (he : ∀ L us w, (∀ k, k < l.length → L k = true) → I L us w → Q .normal (putAll us l 0 a0) w) : (Code.region id l.toArray true).wpIn F n P Q a0 w := by
  refine wpIn_region_any hm ?_
  have ea : putAll (fun k => ((l[k]?).bind (·.dst)).elim undef fun d => a0.tmps.getD d undef) l 0 a0 = a0 := putAll_self l 0 a0 _ fun j o hj d hd => by
    simp [hj, hd]
  have eL : (fun k => (Array.replicate l.toArray.size false).getD k false) = fun _ => false := by
    funext k
    rw [Array.getD_eq_getD_getElem?, Array.getElem?_replicate]
    split <;> rfl
  have := anyIn_by (of_decide_eq_true hn) hf hs he l.toArray.size (Array.replicate l.toArray.size false) (fun k => ((l[k]?).bind (·.dst)).elim undef fun d => a0.tmps.getD d undef) w.drew (by simp) (fun h k hk => by simp at h; simp [h] at hk) (fun k hk _ => ⟨l.length - 1, by simp; omega⟩)
    (by unfold fewer; refine Nat.le_trans List.countP_le_length ?_; simp) (fun i k hi => by rw [eL] at hi; cases hi) (by rw [eL]; exact h0 _)
  rw [ea] at this
  exact this
end
/-! Blocks that operations make, each its own. -/
/-- The block that a pointer or a slice points into. -/
def bk : Value → Nat
  | .pointer (some a) => a.block
  | .slice (some a) _ _ => a.block
  | _ => 0
/-- The operations N have each made a block of its own; nothing of W0 has changed. -/
structure Owns (N : List Nat) (W0 : World) (L : Nat → Bool) (us : Nat → Value) (w : World) : Prop where
  e : Ext W0 w
  lt : ∀ i ∈ N, L i = true → W0.heap.size ≤ bk (us i) ∧ bk (us i) < w.heap.size
  ne : ∀ i ∈ N, ∀ j ∈ N, i ≠ j → L i = true → L j = true → bk (us i) ≠ bk (us j)
section
variable {N : List Nat} {W0 w w' : World} {L : Nat → Bool} {us : Nat → Value}
theorem Owns.start (h : Ext W0 w) : Owns N W0 (fun _ => false) us w := ⟨h, (fun _ _ h => by cases h), (fun _ _ _ _ _ h => by cases h)⟩
theorem Owns.ext (h : Owns N W0 L us w) {i : Nat} (hi : N.contains i = false) (v : Value) (E : Ext w w') : Owns N W0 (updF L i true) (updF us i v) w' := by
  have hn : ∀ k ∈ N, k ≠ i := fun k hk e => by
    subst e
    simp [hk] at hi
  refine ⟨h.e.trans E, fun k hk hl => ?_, fun j hj k hk hjk hl hm => ?_⟩
  · rw [updF_ne _ _ (hn k hk)] at hl ⊢
    have := h.lt k hk hl
    have := E.size
    omega
  · rw [updF_ne _ _ (hn k hk)] at hm ⊢
    rw [updF_ne _ _ (hn j hj)] at hl ⊢
    exact h.ne j hj k hk hjk hl hm
theorem Owns.pure (h : Owns N W0 L us w) {i : Nat} (hi : N.contains i = false) (v : Value) : Owns N W0 (updF L i true) (updF us i v) w := h.ext hi v (Ext.refl w)
theorem Owns.new (h : Owns N W0 L us w) {i : Nat} (hl : L i = false) (v : Value) (E : Ext w w') (h1 : w.heap.size ≤ bk v) (h2 : bk v < w'.heap.size) : Owns N W0 (updF L i true) (updF us i v) w' := by
  have hs := E.size
  have hs0 := h.e.size
  refine ⟨h.e.trans E, fun k hk hlk => ?_, fun j hj k hk hjk hlj hlk => ?_⟩
  · by_cases hki : k = i
    · subst hki
      rw [updF_at]
      omega
    · rw [updF_ne _ _ hki] at hlk ⊢
      have := h.lt k hk hlk
      omega
  · by_cases hki : k = i
    · subst hki
      have hji : j ≠ k := hjk
      rw [updF_ne _ _ hji] at hlj ⊢
      rw [updF_at]
      have := h.lt j hj hlj
      omega
    · rw [updF_ne _ _ hki] at hlk ⊢
      by_cases hji : j = i
      · subst hji
        rw [updF_at]
        have := h.lt k hk hlk
        omega
      · rw [updF_ne _ _ hji] at hlj ⊢
        exact h.ne j hj k hk hjk hlj hlk
/-- A store into a block that one of them has made. -/
theorem Owns.set_ (h : Owns N W0 L us w) {i : Nat} (hi : N.contains i = false) (v : Value) {p : Nat} (hp : N.contains p = true) (hl : L p = true) (hk : ∀ W, Ext W w → W.heap.size ≤ bk (us p) → Ext W w') (hz : w'.heap.size = w.heap.size) : Owns N W0 (updF L i true) (updF us i v) w' := by
  have hpl := h.lt p (by simpa using hp) hl
  have h' : Owns N W0 L us w' := ⟨hk W0 h.e hpl.1, fun k hk hl => by rw [hz]; exact h.lt k hk hl, h.ne⟩
  exact h'.pure hi v
theorem Owns.far (h : Owns N W0 L us w) {i j : Nat} (hi : N.contains i = true) (hj : N.contains j = true) (hij : i ≠ j) (h1 : L i = true) (h2 : L j = true) : bk (us i) ≠ bk (us j) := h.ne i (by simpa using hi) j (by simpa using hj) hij h1 h2
end
end Go.Proofs.YtaaeapjnjjbglaaGreatDoor
