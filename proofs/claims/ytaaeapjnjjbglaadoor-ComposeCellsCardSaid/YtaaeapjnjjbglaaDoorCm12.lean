/- A drawn region by an invariant over what has come up so far: one small goal for each operation serves every order. A block that holds rows of one width: read, stored into, made. Rows of the call's own beside each other; append of a whole slice, whatever its source. -/
import Derived.Test.YtaaeapjnjjbglaaDoorCm11
import Derived.RegionIn
import Derived.Laws.MakeOwn
import Derived.Laws.AppendOwnNone

namespace Go.Proofs.YtaaeapjnjjbglaaDoor
open Go.RowKit

/-- The frame with values put at the slots of some operations. -/
def putAll (us : Nat → Value) : List Oper → Nat → Act → Act
  | [], _, a => a
  | o :: l, i, a => putAll us l (i + 1) (a.put o.dst (us i))
/-- A function turned at one number. -/
def updF {α : Type} (f : Nat → α) (i : Nat) (v : α) : Nat → α := fun k => bif Nat.beq k i then v else f k
theorem updF_at {α : Type} (f : Nat → α) (i : Nat) (v : α) : updF f i v i = v := by simp [updF, Nat.beq_refl]
theorem updF_ne {α : Type} (f : Nat → α) {i k : Nat} (v : α) (h : k ≠ i) : updF f i v k = f k := by
  have : Nat.beq k i = false := by
    cases hb : Nat.beq k i
    · rfl
    · exact absurd (Nat.eq_of_beq_eq_true hb) h
  simp [updF, this]
theorem put_put (a : Act) (d : Tmp) (u v : Value) : (a.put (some d) u).put (some d) v = a.put (some d) v := by
  simp [Act.put]
theorem put_ne (a : Act) {x y : Option Tmp} (u v : Value) (h : ∀ d, x = some d → y ≠ some d) : (a.put x u).put y v = (a.put y v).put x u := by
  cases x with
  | none => rfl
  | some d =>
    cases y with
    | none => rfl
    | some e =>
      have : d ≠ e := fun he => h d rfl (by rw [he])
      simp [Act.put, Array.setIfInBounds_comm _ _ this]
def dsts (l : List Oper) : List Tmp := l.filterMap (·.dst)
theorem putAll_put {us : Nat → Value} {x : Option Tmp} (v : Value) : ∀ (l : List Oper) (i : Nat) (a : Act), (∀ d, x = some d → d ∉ dsts l) → putAll us l i (a.put x v) = (putAll us l i a).put x v
  | [], _, _, _ => rfl
  | o :: l, i, a, h => by
    show putAll us l (i + 1) ((a.put x v).put o.dst (us i)) = (putAll us l (i + 1) (a.put o.dst (us i))).put x v
    rw [put_ne, putAll_put v l (i + 1) _ fun d hd hm => h d hd (by
      unfold dsts at hm ⊢
      rw [List.filterMap_cons]
      split
      · exact hm
      · exact List.mem_cons_of_mem _ hm)]
    intro d hd he
    refine h d hd ?_
    unfold dsts
    rw [List.filterMap_cons, he]
    exact List.mem_cons_self ..
theorem putAll_congr {us vs : Nat → Value} : ∀ (l : List Oper) (i : Nat) (a : Act), (∀ k, i ≤ k → us k = vs k) → putAll us l i a = putAll vs l i a
  | [], _, _, _ => rfl
  | o :: l, i, a, h => by
    show putAll us l (i + 1) (a.put o.dst (us i)) = putAll vs l (i + 1) (a.put o.dst (vs i))
    rw [h i (Nat.le_refl _)]
    exact putAll_congr l (i + 1) _ fun k hk => h k (by omega)
theorem putAll_upd {us : Nat → Value} (v : Value) : ∀ (l : List Oper) (k : Nat) (a : Act) (j : Nat) (o : Oper), (dsts l).Nodup → l[j]? = some o → (putAll us l k a).put o.dst v = putAll (updF us (k + j) v) l k a
  | [], _, _, _, _, _, h => by simp at h
  | q :: l, k, a, 0, o, hn, h => by
    obtain rfl : q = o := by simpa using h
    show (putAll us l (k + 1) (a.put q.dst (us k))).put q.dst v = putAll (updF us (k + 0) v) l (k + 1) (a.put q.dst (updF us (k + 0) v k))
    have hx : ∀ d, q.dst = some d → d ∉ dsts l := fun d hd hm => by
      unfold dsts at hn hm
      rw [List.filterMap_cons, hd] at hn
      exact (List.nodup_cons.1 hn).1 hm
    have e0 : updF us (k + 0) v k = v := updF_at us k v
    rw [← putAll_put v l _ _ hx, e0]
    rw [putAll_congr (us := updF us (k + 0) v) (vs := us) l (k + 1) _ fun m hm => updF_ne _ _ (by omega)]
    congr 1
    cases hd : q.dst with
    | none => rfl
    | some d => exact put_put _ _ _ _
  | q :: l, k, a, j + 1, o, hn, h => by
    show (putAll us l (k + 1) (a.put q.dst (us k))).put o.dst v = putAll (updF us (k + (j + 1)) v) l (k + 1) (a.put q.dst (updF us (k + (j + 1)) v k))
    have hn' : (dsts l).Nodup := by
      unfold dsts at hn ⊢
      rw [List.filterMap_cons] at hn
      split at hn
      · exact hn
      · exact (List.nodup_cons.1 hn).2
    rw [putAll_upd v l (k + 1) _ j o hn' (by simpa using h), updF_ne _ _ (by omega), show k + 1 + j = k + (j + 1) from by omega]
theorem putAll_self : ∀ (l : List Oper) (k : Nat) (a : Act) (us : Nat → Value), (∀ j o, l[j]? = some o → ∀ d, o.dst = some d → us (k + j) = a.tmps.getD d undef) → putAll us l k a = a
  | [], _, _, _, _ => rfl
  | q :: l, k, a, us, h => by
    show putAll us l (k + 1) (a.put q.dst (us k)) = a
    have h0 : a.put q.dst (us k) = a := by
      cases hd : q.dst with
      | none => rfl
      | some d =>
        have := h 0 q rfl d hd
        rw [Nat.add_zero] at this
        rw [this]
        unfold Act.put
        simp only
        congr 1
        apply Array.ext_getElem?
        intro i
        rw [Array.getElem?_setIfInBounds]
        split
        · rename_i e
          subst e
          split
          · rename_i hlt
            simp [Array.getElem?_eq_getElem hlt]
          · rename_i hge
            rw [Array.getElem?_eq_none (by omega)]
        · rfl
    rw [h0]
    exact putAll_self l (k + 1) a us fun j o hj d hd => by
      have := h (j + 1) o (by simpa using hj) d hd
      rwa [show k + (j + 1) = k + 1 + j from by omega] at this

/-- The operations that must come up ahead of one. -/
def aheadOf (l : List Oper) (i : Nat) : List Nat := match l[i]? with
  | none => []
  | some o => (o.after.toList.filter fun e => Region.binds .any e).map (·.on)
/-- Each operation waits only for such as stand ahead of it in the text. -/
def Region.forthB (l : List Oper) : Bool := (List.range l.length).all fun i => (aheadOf l i).all fun k => decide (k < i)

section
variable {P : Program} {l : List Oper} {I : (Nat → Bool) → (Nat → Value) → World → Prop} {a0 : Act} {Q : Exit → Act → World → Prop}

/-- What is shown of one operation. -/
def OneOp (P : Program) (l : List Oper) (I : (Nat → Bool) → (Nat → Value) → World → Prop) (a0 : Act) (Q : Exit → Act → World → Prop) (o : Oper) (i : Nat) : Prop :=
  ∀ (L : Nat → Bool) (us : Nat → Value) (w : World) (K : Act → World → Prop) (a : Act), putAll us l 0 a0 = a → (∀ k, (aheadOf l i).contains k = true → L k = true) → (∀ j k, L j = true → (aheadOf l j).contains k = true → L k = true) → L i = false → I L us w →
    (∀ v w', I (updF L i true) (updF us i v) w' → K (a.put o.dst v) w') →
    if Region.wanted o (yielded l.toArray a.tmps) = true then Oper.wp P o a w K Q else K (a.put o.dst undef) w
def EachOp (P : Program) (l : List Oper) (I : (Nat → Bool) → (Nat → Value) → World → Prop) (a0 : Act) (Q : Exit → Act → World → Prop) : List Oper → Nat → Prop
  | [], _ => True
  | o :: r, i => OneOp P l I a0 Q o i ∧ EachOp P l I a0 Q r (i + 1)
theorem EachOp.at_ : ∀ {r : List Oper} {i : Nat}, EachOp P l I a0 Q r i → ∀ (j : Nat) (o : Oper), r[j]? = some o → OneOp P l I a0 Q o (i + j)
  | [], _, _, _, _, h => by simp at h
  | q :: r, i, h, 0, o, ho => by
    obtain rfl : q = o := by simpa using ho
    exact h.1
  | q :: r, i, h, j + 1, o, ho => by
    have := EachOp.at_ h.2 j o (by simpa using ho)
    rwa [show i + (j + 1) = i + 1 + j from by omega]

/-- What holds of the numbers that have come up. -/
def Down (l : List Oper) (L : Nat → Bool) : Prop := ∀ i k, L i = true → k ∈ aheadOf l i → L k = true
theorem ahead_ready {listed : Array Bool} {i : Nat} (h : i ∈ Region.ready .any l.toArray listed) : ∀ k ∈ aheadOf l i, listed.getD k false = true := fun k hk => by
  obtain ⟨-, o, ho, ha⟩ := mem_ready.1 h
  have ho' : l[i]? = some o := by simpa using ho
  unfold aheadOf at hk
  rw [ho'] at hk
  obtain ⟨e, he, rfl⟩ := List.mem_map.1 hk
  obtain ⟨he, hb⟩ := List.mem_filter.1 he
  exact ha e (by simpa using he) hb
theorem lt_all {n : Nat} {p : Nat → Prop} (h : ∀ i, i < n → (∀ k, k < i → p k) → p i) : ∀ i, i < n → p i := by
  intro i
  induction i using Nat.strongRecOn with
  | _ i ih => exact fun hi => h i hi fun k hk => ih k hk (by omega)
theorem none_ready {listed : Array Bool} (hf : Region.forthB l = true) (hz : listed.size = l.length) (h : Region.ready .any l.toArray listed = []) : ∀ i, i < l.length → listed.getD i false = true := by
  refine lt_all fun i hi hk => ?_
  by_cases hx : listed.getD i false = true
  · exact hx
  exfalso
  have hi' : i < listed.size := by omega
  have hm : i ∈ Region.ready .any l.toArray listed := by
    refine mem_ready.2 ⟨?_, l[i], by simp [hi], fun e he hb => hk e.on ?_⟩
    · simpa [Array.getElem?_eq_getElem hi'] using hx
    · unfold Region.forthB at hf
      rw [List.all_eq_true] at hf
      have := hf i (List.mem_range.2 hi)
      rw [List.all_eq_true] at this
      refine of_decide_eq_true (this e.on ?_)
      unfold aheadOf
      rw [List.getElem?_eq_getElem hi]
      exact List.mem_map.2 ⟨e, List.mem_filter.2 ⟨by simpa using he, hb⟩, rfl⟩
  rw [h] at hm
  cases hm
theorem listed_upd {listed : Array Bool} {i : Nat} (hi : i < listed.size) : (fun k => (listed.setIfInBounds i true).getD k false) = updF (fun k => listed.getD k false) i true := by
  funext k
  by_cases h : k = i
  · subst h
    rw [updF_at]
    simp [hi]
  · rw [updF_ne _ _ h]
    exact getD_set_ne false (Ne.symm h)
def fewer (listed : Array Bool) : Nat := (List.range listed.size).countP fun k => !listed.getD k false
theorem any_by (hn : (dsts l).Nodup) (hf : Region.forthB l = true) (hs : EachOp P l I a0 Q l 0) (he : ∀ L us w, (∀ k, k < l.length → L k = true) → I L us w → Q .normal (putAll us l 0 a0) w) :
    ∀ (fuel : Nat) (listed : Array Bool) (us : Nat → Value) (w : World), listed.size = l.length → (fuel = 0 → ∀ k, k < l.length → listed.getD k false = true) → (∀ k, k < l.length → listed.getD k false = false → ∃ f, fuel = f + 1) → 
      fewer listed ≤ fuel → Down l (fun k => listed.getD k false) → I (fun k => listed.getD k false) us w → wpAny P .any l.toArray Q fuel listed (putAll us l 0 a0) w := by
  intro fuel
  induction fuel with
  | zero =>
    intro listed us w hz h0 _ _ _ hI
    have hall := h0 rfl
    refine ⟨?_, he _ _ _ hall hI⟩
    rw [List.eq_nil_iff_forall_not_mem]
    intro i hi
    have hm := mem_ready.1 hi
    obtain ⟨hm, o, ho, -⟩ := hm
    have hlt : i < l.length := by
      have := (Array.getElem?_eq_some_iff.1 ho).1
      simpa using this
    have := hall i hlt
    have hi' : i < listed.size := by omega
    simp [Array.getElem?_eq_getElem hi'] at this hm
    rw [hm] at this
    cases this
  | succ fuel ih =>
    intro listed us w hz _ _ hfew hD hI
    refine ⟨fun hr => he _ _ _ (none_ready hf hz hr) hI, fun i hi => ?_⟩
    obtain ⟨hun, o, ho, -⟩ := mem_ready.1 hi
    have ho' : l[i]? = some o := by simpa using ho
    have hlt : i < l.length := (List.getElem?_eq_some_iff.1 ho').1
    have hi' : i < listed.size := by omega
    have hun' : listed.getD i false = false := by simpa [Array.getElem?_eq_getElem hi'] using hun
    have hgo := hs.at_ i o ho'
    rw [Nat.zero_add] at hgo
    have hah := ahead_ready hi
    refine wpOp_step ho fun K' hK' => ?_
    refine hgo _ us w K' _ rfl (fun k hk => ?_) (fun j k hj hk => ?_) hun' hI fun v w' hI' => ?_
    · exact hah k (by simpa using hk)
    · exact hD j k hj (by simpa using hk)
    · rw [putAll_upd v l 0 a0 i o hn ho', Nat.zero_add]
      refine hK' _ _ ?_
      have hle : fewer (listed.setIfInBounds i true) + 1 ≤ fewer listed := by
        unfold fewer
        rw [Array.size_setIfInBounds]
        have h1 : ∀ (r : List Nat), r.Nodup → i ∈ r → (r.countP fun k => !(listed.setIfInBounds i true).getD k false) + 1 ≤ r.countP fun k => !listed.getD k false := by
          intro r
          induction r with
          | nil => intro _ h; cases h
          | cons x r ihr =>
            intro hnd hm
            rw [List.countP_cons, List.countP_cons]
            obtain ⟨hx, hr⟩ := List.nodup_cons.1 hnd
            have mono : ∀ (r : List Nat), (r.countP fun k => !(listed.setIfInBounds i true).getD k false) ≤ r.countP fun k => !listed.getD k false := fun r => List.countP_mono_left fun k _ hk => by
              by_cases hki : k = i
              · subst hki
                simp [hun']
              · rw [getD_set_ne false (Ne.symm hki)] at hk
                exact hk
            rcases List.mem_cons.1 hm with rfl | hm
            · have e1 : (listed.setIfInBounds i true).getD i false = true := by simp [hi']
              have := mono r
              rw [e1, hun']
              simp only [Bool.not_true, Bool.not_false, if_true, Bool.false_eq_true, if_false]
              omega
            · have := ihr hr hm
              have hki : x ≠ i := fun e => hx (e ▸ hm)
              rw [getD_set_ne false (Ne.symm hki)]
              omega
        exact h1 _ List.nodup_range (List.mem_range.2 hi')
      have hpos : ∀ (m : Array Bool), m.size = l.length → ∀ k, k < l.length → m.getD k false = false → 0 < fewer m := fun m hm k hk hk' => by
        unfold fewer
        rw [List.countP_pos_iff]
        exact ⟨k, List.mem_range.2 (by omega), by simp only [hk', Bool.not_false]⟩
      have hz' : (listed.setIfInBounds i true).size = l.length := by rw [Array.size_setIfInBounds, hz]
      refine ih _ _ _ hz' (fun h0 k hk => ?_) (fun k hk hk' => ?_) (by omega) ?_ (by rw [listed_upd hi']; exact hI')
      · by_cases hx : (listed.setIfInBounds i true).getD k false = true
        · exact hx
        · have := hpos _ hz' k hk (by simpa using hx)
          omega
      · have := hpos _ hz' k hk hk'
        exact ⟨fuel - 1, by omega⟩
      · rw [listed_upd hi']
        intro j k hj hk
        by_cases hki : k = i
        · subst hki
          exact updF_at _ _ _
        · rw [updF_ne _ _ hki]
          by_cases hji : j = i
          · subst hji
            exact hah k hk
          · rw [updF_ne _ _ hji] at hj
            exact hD j k hj hk
/-- **A drawn region by an invariant.** -/
theorem wp_region_by {id : Nat} {w : World} (I : (Nat → Bool) → (Nat → Value) → World → Prop) (hm : P.follows .mixedOrders = true) (hn : decide (dsts l).Nodup = true) (hf : Region.forthB l = true)
    (h0 : ∀ us, I (fun _ => false) us w.drew) (hs : EachOp P l I a0 Q l 0) (he : ∀ L us w, (∀ k, k < l.length → L k = true) → I L us w → Q .normal (putAll us l 0 a0) w) : (Code.region id l.toArray true).wp P Q a0 w := by
  refine wp_region_any hm ?_
  have ea : putAll (fun k => ((l[k]?).bind (·.dst)).elim undef fun d => a0.tmps.getD d undef) l 0 a0 = a0 := putAll_self l 0 a0 _ fun j o hj d hd => by
    simp [hj, hd]
  have eL : (fun k => (Array.replicate l.toArray.size false).getD k false) = fun _ => false := by
    funext k
    rw [Array.getD_eq_getD_getElem?, Array.getElem?_replicate]
    split <;> rfl
  have := any_by (of_decide_eq_true hn) hf hs he l.toArray.size (Array.replicate l.toArray.size false) (fun k => ((l[k]?).bind (·.dst)).elim undef fun d => a0.tmps.getD d undef) w.drew (by simp) (fun h k hk => by simp at h; simp [h] at hk) (fun k hk _ => ⟨l.length - 1, by simp; omega⟩)
    (by unfold fewer; refine Nat.le_trans List.countP_le_length ?_; simp) (fun i k hi => by rw [eL] at hi; cases hi) (by rw [eL]; exact h0 _)
  rw [ea] at this
  exact this
end

/-! Inside a fence. -/
section
variable {F : Fence} {n : Nat} {P : Program} {l : List Oper} {I : (Nat → Bool) → (Nat → Value) → World → Prop} {a0 : Act} {Q : Exit → Act → World → Prop}
def OneOpIn (F : Fence) (n : Nat) (P : Program) (l : List Oper) (I : (Nat → Bool) → (Nat → Value) → World → Prop) (a0 : Act) (Q : Exit → Act → World → Prop) (o : Oper) (i : Nat) : Prop :=
  ∀ (L : Nat → Bool) (us : Nat → Value) (w : World) (K : Act → World → Prop) (a : Act), putAll us l 0 a0 = a → (∀ k, (aheadOf l i).contains k = true → L k = true) → (∀ j k, L j = true → (aheadOf l j).contains k = true → L k = true) → L i = false → I L us w →
    (∀ v w', I (updF L i true) (updF us i v) w' → K (a.put o.dst v) w') →
    if Region.wanted o (yielded l.toArray a.tmps) = true then Oper.wpIn F n P o a w K Q else (∀ f, o.about P w a.eval = some f → F.fn f) ∧ K (a.put o.dst undef) w
def EachOpIn (F : Fence) (n : Nat) (P : Program) (l : List Oper) (I : (Nat → Bool) → (Nat → Value) → World → Prop) (a0 : Act) (Q : Exit → Act → World → Prop) : List Oper → Nat → Prop
  | [], _ => True
  | o :: r, i => OneOpIn F n P l I a0 Q o i ∧ EachOpIn F n P l I a0 Q r (i + 1)
theorem EachOpIn.at_ : ∀ {r : List Oper} {i : Nat}, EachOpIn F n P l I a0 Q r i → ∀ (j : Nat) (o : Oper), r[j]? = some o → OneOpIn F n P l I a0 Q o (i + j)
  | [], _, _, _, _, h => by simp at h
  | q :: r, i, h, 0, o, ho => by
    obtain rfl : q = o := by simpa using ho
    exact h.1
  | q :: r, i, h, j + 1, o, ho => by
    have := EachOpIn.at_ h.2 j o (by simpa using ho)
    rwa [show i + (j + 1) = i + 1 + j from by omega]
theorem anyIn_by (hn : (dsts l).Nodup) (hf : Region.forthB l = true) (hs : EachOpIn F n P l I a0 Q l 0) (he : ∀ L us w, (∀ k, k < l.length → L k = true) → I L us w → Q .normal (putAll us l 0 a0) w) :
    ∀ (fuel : Nat) (listed : Array Bool) (us : Nat → Value) (w : World), listed.size = l.length → (fuel = 0 → ∀ k, k < l.length → listed.getD k false = true) → (∀ k, k < l.length → listed.getD k false = false → ∃ f, fuel = f + 1) → 
      fewer listed ≤ fuel → Down l (fun k => listed.getD k false) → I (fun k => listed.getD k false) us w → wpAnyIn F n P .any l.toArray Q fuel listed (putAll us l 0 a0) w := by
  intro fuel
  induction fuel with
  | zero =>
    intro listed us w hz h0 _ _ _ hI
    have hall := h0 rfl
    refine ⟨?_, he _ _ _ hall hI⟩
    rw [List.eq_nil_iff_forall_not_mem]
    intro i hi
    have hm := mem_ready.1 hi
    obtain ⟨hm, o, ho, -⟩ := hm
    have hlt : i < l.length := by
      have := (Array.getElem?_eq_some_iff.1 ho).1
      simpa using this
    have := hall i hlt
    have hi' : i < listed.size := by omega
    simp [Array.getElem?_eq_getElem hi'] at this hm
    rw [hm] at this
    cases this
  | succ fuel ih =>
    intro listed us w hz _ _ hfew hD hI
    refine ⟨fun hr => he _ _ _ (none_ready hf hz hr) hI, fun i hi => ?_⟩
    obtain ⟨hun, o, ho, -⟩ := mem_ready.1 hi
    have ho' : l[i]? = some o := by simpa using ho
    have hlt : i < l.length := (List.getElem?_eq_some_iff.1 ho').1
    have hi' : i < listed.size := by omega
    have hun' : listed.getD i false = false := by simpa [Array.getElem?_eq_getElem hi'] using hun
    have hgo := hs.at_ i o ho'
    rw [Nat.zero_add] at hgo
    have hah := ahead_ready hi
    refine wpOpIn_step ho fun K' hK' => ?_
    refine hgo _ us w K' _ rfl (fun k hk => ?_) (fun j k hj hk => ?_) hun' hI fun v w' hI' => ?_
    · exact hah k (by simpa using hk)
    · exact hD j k hj (by simpa using hk)
    · rw [putAll_upd v l 0 a0 i o hn ho', Nat.zero_add]
      refine hK' _ _ ?_
      have hle : fewer (listed.setIfInBounds i true) + 1 ≤ fewer listed := by
        unfold fewer
        rw [Array.size_setIfInBounds]
        have h1 : ∀ (r : List Nat), r.Nodup → i ∈ r → (r.countP fun k => !(listed.setIfInBounds i true).getD k false) + 1 ≤ r.countP fun k => !listed.getD k false := by
          intro r
          induction r with
          | nil => intro _ h; cases h
          | cons x r ihr =>
            intro hnd hm
            rw [List.countP_cons, List.countP_cons]
            obtain ⟨hx, hr⟩ := List.nodup_cons.1 hnd
            have mono : ∀ (r : List Nat), (r.countP fun k => !(listed.setIfInBounds i true).getD k false) ≤ r.countP fun k => !listed.getD k false := fun r => List.countP_mono_left fun k _ hk => by
              by_cases hki : k = i
              · subst hki
                simp [hun']
              · rw [getD_set_ne false (Ne.symm hki)] at hk
                exact hk
            rcases List.mem_cons.1 hm with rfl | hm
            · have e1 : (listed.setIfInBounds i true).getD i false = true := by simp [hi']
              have := mono r
              rw [e1, hun']
              simp only [Bool.not_true, Bool.not_false, if_true, Bool.false_eq_true, if_false]
              omega
            · have := ihr hr hm
              have hki : x ≠ i := fun e => hx (e ▸ hm)
              rw [getD_set_ne false (Ne.symm hki)]
              omega
        exact h1 _ List.nodup_range (List.mem_range.2 hi')
      have hpos : ∀ (m : Array Bool), m.size = l.length → ∀ k, k < l.length → m.getD k false = false → 0 < fewer m := fun m hm k hk hk' => by
        unfold fewer
        rw [List.countP_pos_iff]
        exact ⟨k, List.mem_range.2 (by omega), by simp only [hk', Bool.not_false]⟩
      have hz' : (listed.setIfInBounds i true).size = l.length := by rw [Array.size_setIfInBounds, hz]
      refine ih _ _ _ hz' (fun h0 k hk => ?_) (fun k hk hk' => ?_) (by omega) ?_ (by rw [listed_upd hi']; exact hI')
      · by_cases hx : (listed.setIfInBounds i true).getD k false = true
        · exact hx
        · have := hpos _ hz' k hk (by simpa using hx)
          omega
      · have := hpos _ hz' k hk hk'
        exact ⟨fuel - 1, by omega⟩
      · rw [listed_upd hi']
        intro j k hj hk
        by_cases hki : k = i
        · subst hki
          exact updF_at _ _ _
        · rw [updF_ne _ _ hki]
          by_cases hji : j = i
          · subst hji
            exact hah k hk
          · rw [updF_ne _ _ hji] at hj
            exact hD j k hj hk
theorem wpIn_region_by {id : Nat} {w : World} (I : (Nat → Bool) → (Nat → Value) → World → Prop) (hm : P.follows .mixedOrders = true) (hn : decide (dsts l).Nodup = true) (hf : Region.forthB l = true)
    (h0 : ∀ us, I (fun _ => false) us w.drew) (hs : EachOpIn F n P l I a0 Q l 0) (he : ∀ L us w, (∀ k, k < l.length → L k = true) → I L us w → Q .normal (putAll us l 0 a0) w) : (Code.region id l.toArray true).wpIn F n P Q a0 w := by
  refine wpIn_region_any hm ?_
  have ea : putAll (fun k => ((l[k]?).bind (·.dst)).elim undef fun d => a0.tmps.getD d undef) l 0 a0 = a0 := putAll_self l 0 a0 _ fun j o hj d hd => by
    simp [hj, hd]
  have eL : (fun k => (Array.replicate l.toArray.size false).getD k false) = fun _ => false := by
    funext k
    rw [Array.getD_eq_getD_getElem?, Array.getElem?_replicate]
    split <;> rfl
  have := anyIn_by (of_decide_eq_true hn) hf hs he l.toArray.size (Array.replicate l.toArray.size false) (fun k => ((l[k]?).bind (·.dst)).elim undef fun d => a0.tmps.getD d undef) w.drew (by simp) (fun h k hk => by simp at h; simp [h] at hk) (fun k hk _ => ⟨l.length - 1, by simp; omega⟩)
    (by unfold fewer; refine Nat.le_trans List.countP_le_length ?_; simp) (fun i k hi => by rw [eL] at hi; cases hi) (by rw [eL]; exact h0 _)
  rw [ea] at this
  exact this
end
/-! Blocks that operations make, each its own. -/
/-- The block that a pointer or a slice points into. -/
def bk : Value → Nat
  | .pointer (some a) => a.block
  | .slice (some a) _ _ => a.block
  | _ => 0
/-- The operations N have each made a block of its own; nothing of W0 has changed. -/
structure Owns (N : List Nat) (W0 : World) (L : Nat → Bool) (us : Nat → Value) (w : World) : Prop where
  e : Ext W0 w
  lt : ∀ i ∈ N, L i = true → W0.heap.size ≤ bk (us i) ∧ bk (us i) < w.heap.size
  ne : ∀ i ∈ N, ∀ j ∈ N, i ≠ j → L i = true → L j = true → bk (us i) ≠ bk (us j)
section
variable {N : List Nat} {W0 w w' : World} {L : Nat → Bool} {us : Nat → Value}
theorem Owns.start (h : Ext W0 w) : Owns N W0 (fun _ => false) us w := ⟨h, (fun _ _ h => by cases h), (fun _ _ _ _ _ h => by cases h)⟩
theorem Owns.ext (h : Owns N W0 L us w) {i : Nat} (hi : N.contains i = false) (v : Value) (E : Ext w w') : Owns N W0 (updF L i true) (updF us i v) w' := by
  have hn : ∀ k ∈ N, k ≠ i := fun k hk e => by
    subst e
    simp [hk] at hi
  refine ⟨h.e.trans E, fun k hk hl => ?_, fun j hj k hk hjk hl hm => ?_⟩
  · rw [updF_ne _ _ (hn k hk)] at hl ⊢
    have := h.lt k hk hl
    have := E.size
    omega
  · rw [updF_ne _ _ (hn k hk)] at hm ⊢
    rw [updF_ne _ _ (hn j hj)] at hl ⊢
    exact h.ne j hj k hk hjk hl hm
theorem Owns.pure (h : Owns N W0 L us w) {i : Nat} (hi : N.contains i = false) (v : Value) : Owns N W0 (updF L i true) (updF us i v) w := h.ext hi v (Ext.refl w)
theorem Owns.new (h : Owns N W0 L us w) {i : Nat} (hl : L i = false) (v : Value) (E : Ext w w') (h1 : w.heap.size ≤ bk v) (h2 : bk v < w'.heap.size) : Owns N W0 (updF L i true) (updF us i v) w' := by
  have hs := E.size
  have hs0 := h.e.size
  refine ⟨h.e.trans E, fun k hk hlk => ?_, fun j hj k hk hjk hlj hlk => ?_⟩
  · by_cases hki : k = i
    · subst hki
      rw [updF_at]
      omega
    · rw [updF_ne _ _ hki] at hlk ⊢
      have := h.lt k hk hlk
      omega
  · by_cases hki : k = i
    · subst hki
      have hji : j ≠ k := hjk
      rw [updF_ne _ _ hji] at hlj ⊢
      rw [updF_at]
      have := h.lt j hj hlj
      omega
    · rw [updF_ne _ _ hki] at hlk ⊢
      by_cases hji : j = i
      · subst hji
        rw [updF_at]
        have := h.lt k hk hlk
        omega
      · rw [updF_ne _ _ hji] at hlj ⊢
        exact h.ne j hj k hk hjk hlj hlk
/-- A store into a block that one of them has made. -/
theorem Owns.set_ (h : Owns N W0 L us w) {i : Nat} (hi : N.contains i = false) (v : Value) {p : Nat} (hp : N.contains p = true) (hl : L p = true) (hk : ∀ W, Ext W w → W.heap.size ≤ bk (us p) → Ext W w') (hz : w'.heap.size = w.heap.size) : Owns N W0 (updF L i true) (updF us i v) w' := by
  have hpl := h.lt p (by simpa using hp) hl
  have h' : Owns N W0 L us w' := ⟨hk W0 h.e hpl.1, fun k hk hl => by rw [hz]; exact h.lt k hk hl, h.ne⟩
  exact h'.pure hi v
theorem Owns.far (h : Owns N W0 L us w) {i j : Nat} (hi : N.contains i = true) (hj : N.contains j = true) (hij : i ≠ j) (h1 : L i = true) (h2 : L j = true) : bk (us i) ≠ bk (us j) := h.ne i (by simpa using hi) j (by simpa using hj) hij h1 h2
end
end Go.Proofs.YtaaeapjnjjbglaaDoor

namespace Go.Proofs.YtaaeapjnjjbglaaDoor
open Go.RowKit

theorem rowsF_get {sz : Nat} : ∀ {rows : List (List Value)}, (∀ r ∈ rows, r.length = sz) → ∀ {i j : Nat}, j < sz → rows.flatten[i * sz + j]? = (rows[i]?).bind (·[j]?)
  | [], _, i, j, _ => by simp
  | r :: rs, hw, i, j, hj => by
    have hr := hw r (List.mem_cons_self ..)
    rw [List.flatten_cons]
    cases i with
    | zero =>
      rw [Nat.zero_mul, Nat.zero_add, List.getElem?_append_left (by omega)]
      rfl
    | succ i =>
      rw [List.getElem?_append_right (by rw [hr, Nat.succ_mul]; omega), hr, show (i + 1) * sz + j - sz = i * sz + j by rw [Nat.succ_mul]; omega, rowsF_get (fun r h => hw r (List.mem_cons_of_mem _ h)) hj]
      rfl
theorem rowsF_len {sz : Nat} : ∀ {rows : List (List Value)}, (∀ r ∈ rows, r.length = sz) → rows.flatten.length = rows.length * sz
  | [], _ => by simp
  | r :: rs, hw => by
    rw [List.flatten_cons, List.length_append, hw r (List.mem_cons_self ..), rowsF_len (fun r h => hw r (List.mem_cons_of_mem _ h)), List.length_cons, Nat.succ_mul, Nat.add_comm]
/-- The cells of rows, one behind the other. -/
def rowsA (rows : List (List Value)) : Array Value := rows.flatten.toArray
theorem rowsA_get {sz : Nat} {rows : List (List Value)} (hw : ∀ r ∈ rows, r.length = sz) {i j : Nat} {r : List Value} {u : Value} (hr : rows[i]? = some r) (hu : r[j]? = some u) : (rowsA rows)[i * sz + j]? = some u := by
  have hj : j < sz := by
    have := (List.getElem?_eq_some_iff.1 hu).1
    rw [hw r (List.mem_of_getElem? hr)] at this
    exact this
  unfold rowsA
  rw [List.getElem?_toArray, rowsF_get hw hj, hr]
  exact hu
theorem rowsA_size {sz : Nat} {rows : List (List Value)} (hw : ∀ r ∈ rows, r.length = sz) : (rowsA rows).size = rows.length * sz := by
  unfold rowsA
  rw [List.size_toArray, rowsF_len hw]
/-- Two blocks of rows are one if they read alike. -/
theorem rowsA_ext {sz : Nat} {rows : List (List Value)} {c : Array Value} (hw : ∀ r ∈ rows, r.length = sz) (hs : c.size = rows.length * sz) (h : ∀ i j r u, rows[i]? = some r → r[j]? = some u → c[i * sz + j]? = some u) : c = rowsA rows := by
  refine Array.ext_getElem? fun t => ?_
  rcases Nat.lt_or_ge t (rows.length * sz) with ht | ht
  · have hz : 0 < sz := by
      rcases Nat.eq_zero_or_pos sz with e | e
      · subst e
        rw [Nat.mul_zero] at ht
        omega
      · exact e
    have hi : t / sz < rows.length := Nat.div_lt_of_lt_mul (by rwa [Nat.mul_comm])
    have hj : t % sz < sz := Nat.mod_lt _ hz
    have hr : rows[t / sz]? = some rows[t / sz] := List.getElem?_eq_getElem hi
    have hlen : rows[t / sz].length = sz := hw _ (List.getElem_mem hi)
    have hu : rows[t / sz][t % sz]? = some (rows[t / sz][t % sz]'(by rw [hlen]; exact hj)) := List.getElem?_eq_getElem _
    have e : t / sz * sz + t % sz = t := Nat.div_add_mod' t sz
    have h1 := h _ _ _ _ hr hu
    have h2 := rowsA_get hw hr hu
    rw [e] at h1 h2
    rw [h1, h2]
  · rw [Array.getElem?_eq_none (by omega), Array.getElem?_eq_none (by rw [rowsA_size hw]; exact ht)]
theorem rowsA_made {sz n : Nat} {zs : Array Value} (hz : zs.size = sz) (_hp : 0 < sz) : madeCells zs (n * sz) = rowsA (List.replicate n zs.toList) := by
  refine rowsA_ext (sz := sz) (fun r h => by rw [List.eq_of_mem_replicate h]; simpa using hz) (by simp [size_madeCells]) fun i j r u hr hu => ?_
  rw [List.getElem?_replicate] at hr
  split at hr
  · rename_i hi
    cases hr
    have hj : j < sz := by
      have := (List.getElem?_eq_some_iff.1 hu).1
      simpa [hz] using this
    have hlt : i * sz + j < n * sz := by
      have : (i + 1) * sz ≤ n * sz := Nat.mul_le_mul_right _ hi
      rw [Nat.succ_mul] at this
      omega
    have hm : (i * sz + j) % sz = j := by rw [Nat.mul_comm, Nat.mul_add_mod]; exact Nat.mod_eq_of_lt hj
    have hu' : zs[j]? = some u := by simpa using hu
    simp [madeCells, hlt, hz, hm]
    rw [getElem!_def, hu']
  · cases hr
/-- Three cells of a row stored. -/
theorem Blk.row3 {w : World} {g : Nat} {t : TypeId} {rows : List (List Value)} (h : Blk w g t (rowsA rows)) (hw : ∀ r ∈ rows, r.length = 3) {k : Nat} (hk : k < rows.length) (a b c : Value) :
    ∃ w2, ((w.setCell ⟨g, k * 3, none⟩ a).setCell ⟨g, k * 3 + 1, none⟩ b).setCell ⟨g, k * 3 + 2, none⟩ c = w2 ∧ Blk w2 g t (rowsA (rows.set k [a, b, c])) ∧
    (∀ k t' cs', k ≠ g → Blk w k t' cs' → Blk w2 k t' cs') ∧ (∀ w0, Ext w0 w → w0.heap.size ≤ g → Ext w0 w2) ∧ w2.heap.size = w.heap.size := by
  refine ⟨_, rfl, ?_, fun k t' cs' hk hb => ((hb.far hk _).far hk _).far hk _, fun w0 hE hg => ((hE.setCell hg _).setCell hg _).setCell hg _, by simp [World.setCell]⟩
  have e := ((h.set_ (k * 3) a).set_ (k * 3 + 1) b).set_ (k * 3 + 2) c
  have hw' : ∀ r ∈ rows.set k [a, b, c], r.length = 3 := fun r hr => by
    rcases List.mem_or_eq_of_mem_set hr with h | h
    · exact hw r h
    · rw [h]
      rfl
  have q : (((rowsA rows).setIfInBounds (k * 3) a).setIfInBounds (k * 3 + 1) b).setIfInBounds (k * 3 + 2) c = rowsA (rows.set k [a, b, c]) := rowsA_ext (sz := 3) hw' (by simp [rowsA_size hw]) fun i j r u hr hu => by
    have hj : j < 3 := by
      have := (List.getElem?_eq_some_iff.1 hu).1
      rwa [hw' r (List.mem_of_getElem? hr)] at this
    rw [List.getElem?_set] at hr
    by_cases hik : k = i
    · subst hik
      rw [if_pos rfl, if_pos hk] at hr
      cases hr
      have hsz : k * 3 + 2 < (rowsA rows).size := by
        rw [rowsA_size hw]
        omega
      have h3 : j = 0 ∨ j = 1 ∨ j = 2 := by omega
      rcases h3 with rfl | rfl | rfl
      · simp only [List.getElem?_cons_zero, Option.some.injEq] at hu
        subst hu
        simp [show k * 3 < (rowsA rows).size by omega]
      · simp only [List.getElem?_cons_succ, List.getElem?_cons_zero, Option.some.injEq] at hu
        subst hu
        simp [show k * 3 + 1 < (rowsA rows).size by omega]
      · simp only [List.getElem?_cons_succ, List.getElem?_cons_zero, Option.some.injEq] at hu
        subst hu
        simp [hsz]
    · rw [if_neg hik] at hr
      rw [Array.getElem?_setIfInBounds, if_neg (by omega), Array.getElem?_setIfInBounds, if_neg (by omega), Array.getElem?_setIfInBounds, if_neg (by omega)]
      exact rowsA_get hw hr hu
  rwa [q] at e
/-- Stores one behind the other. -/
def setsW (w : World) (g : Nat) : Nat → List Value → World
  | _, [] => w
  | o, v :: vs => setsW (w.setCell ⟨g, o, none⟩ v) g (o + 1) vs
def setsA (c : Array Value) : Nat → List Value → Array Value
  | _, [] => c
  | o, v :: vs => setsA (c.setIfInBounds o v) (o + 1) vs
theorem setsA_size : ∀ (vs : List Value) (c : Array Value) (o : Nat), (setsA c o vs).size = c.size
  | [], _, _ => rfl
  | v :: vs, c, o => by
    unfold setsA
    rw [setsA_size vs, Array.size_setIfInBounds]
theorem setsA_get : ∀ (vs : List Value) (c : Array Value) (o t : Nat), o + vs.length ≤ c.size → (setsA c o vs)[t]? = if o ≤ t ∧ t < o + vs.length then vs[t - o]? else c[t]?
  | [], c, o, t, _ => by
    have : ¬ (o ≤ t ∧ t < o + ([] : List Value).length) := by
      show ¬ (o ≤ t ∧ t < o + 0)
      omega
    rw [if_neg this]
    rfl
  | v :: vs, c, o, t, h => by
    have hl : (v :: vs).length = vs.length + 1 := rfl
    unfold setsA
    rw [setsA_get vs _ _ _ (by rw [Array.size_setIfInBounds]; omega), Array.getElem?_setIfInBounds]
    by_cases h1 : o = t
    · subst h1
      rw [if_neg (by omega), if_pos rfl, if_pos (by omega), if_pos (by omega), Nat.sub_self]
      rfl
    · by_cases h2 : o + 1 ≤ t ∧ t < o + 1 + vs.length
      · rw [if_pos h2, if_pos (by omega), show t - o = (t - (o + 1)) + 1 by omega]
        rfl
      · rw [if_neg h2, if_neg h1, if_neg (by omega)]
theorem setsW_blk : ∀ (vs : List Value) {w : World} {g : Nat} {t : TypeId} {c : Array Value} (o : Nat), Blk w g t c → Blk (setsW w g o vs) g t (setsA c o vs)
  | [], _, _, _, _, _, h => h
  | v :: vs, _, _, _, _, o, h => setsW_blk vs (o + 1) (h.set_ o v)
theorem setsW_far : ∀ (vs : List Value) {w : World} {g k : Nat} {t : TypeId} {c : Array Value} (o : Nat), k ≠ g → Blk w k t c → Blk (setsW w g o vs) k t c
  | [], _, _, _, _, _, _, _, h => h
  | v :: vs, _, _, _, _, _, o, hk, h => setsW_far vs (o + 1) hk (h.far hk v)
theorem setsW_ext : ∀ (vs : List Value) {w0 w : World} {g : Nat} (o : Nat), Ext w0 w → w0.heap.size ≤ g → Ext w0 (setsW w g o vs)
  | [], _, _, _, _, h, _ => h
  | v :: vs, _, _, _, o, h, hg => setsW_ext vs (o + 1) (h.setCell hg v) hg
/-- A row stored. -/
theorem Blk.rowN {w : World} {g : Nat} {t : TypeId} {rows : List (List Value)} {sz : Nat} (h : Blk w g t (rowsA rows)) (hw : ∀ r ∈ rows, r.length = sz) {k : Nat} (hk : k < rows.length) (vs : List Value) (hv : vs.length = sz) :
    Blk (setsW w g (k * sz) vs) g t (rowsA (rows.set k vs)) := by
  have e := setsW_blk vs (k * sz) h
  have hw' : ∀ r ∈ rows.set k vs, r.length = sz := fun r hr => by
    rcases List.mem_or_eq_of_mem_set hr with h | h
    · exact hw r h
    · rw [h]
      exact hv
  have hsz : k * sz + vs.length ≤ (rowsA rows).size := by
    rw [rowsA_size hw, hv]
    have : (k + 1) * sz ≤ rows.length * sz := Nat.mul_le_mul_right _ hk
    rwa [Nat.succ_mul] at this
  have q : setsA (rowsA rows) (k * sz) vs = rowsA (rows.set k vs) := rowsA_ext (sz := sz) hw' (by rw [setsA_size, rowsA_size hw, List.length_set]) fun i j r u hr hu => by
    have hj : j < sz := by
      have := (List.getElem?_eq_some_iff.1 hu).1
      rwa [hw' r (List.mem_of_getElem? hr)] at this
    rw [List.getElem?_set] at hr
    rw [setsA_get _ _ _ _ hsz]
    by_cases hik : k = i
    · subst hik
      rw [if_pos rfl, if_pos hk] at hr
      cases hr
      rw [if_pos (by omega), show k * sz + j - k * sz = j by omega]
      exact hu
    · rw [if_neg hik] at hr
      rw [if_neg (by
        rcases Nat.lt_or_ge i k with h | h
        · have : (i + 1) * sz ≤ k * sz := Nat.mul_le_mul_right _ h
          rw [Nat.succ_mul] at this
          omega
        · have : (k + 1) * sz ≤ i * sz := Nat.mul_le_mul_right _ (by omega)
          rw [Nat.succ_mul] at this
          omega)]
      exact rowsA_get hw hr hu
  rwa [q] at e
/-- Five cells of a row stored. -/
theorem Blk.row5 {w : World} {g : Nat} {t : TypeId} {rows : List (List Value)} (h : Blk w g t (rowsA rows)) (hw : ∀ r ∈ rows, r.length = 5) {k : Nat} (hk : k < rows.length) (a b c d e : Value) :
    ∃ w2, ((((w.setCell ⟨g, k * 5, none⟩ a).setCell ⟨g, k * 5 + 1, none⟩ b).setCell ⟨g, k * 5 + 2, none⟩ c).setCell ⟨g, k * 5 + 3, none⟩ d).setCell ⟨g, k * 5 + 4, none⟩ e = w2 ∧ Blk w2 g t (rowsA (rows.set k [a, b, c, d, e])) ∧
    (∀ k t' cs', k ≠ g → Blk w k t' cs' → Blk w2 k t' cs') ∧ (∀ w0, Ext w0 w → w0.heap.size ≤ g → Ext w0 w2) :=
  ⟨_, rfl, h.rowN hw hk [a, b, c, d, e] rfl, fun _ _ _ hk' hb => setsW_far [a, b, c, d, e] (k * 5) hk' hb, fun _ hE hg => setsW_ext [a, b, c, d, e] (k * 5) hE hg⟩
/-- A block of rows, as a slice. -/
theorem Blk.slice {w : World} {g : Nat} {t : TypeId} {rows : List (List Value)} {sz : Nat} (h : Blk w g t (rowsA rows)) (hw : ∀ r ∈ rows, r.length = sz) (hn : rows.length ≤ 100000) : SliceIs w (some ⟨g, 0, none⟩) rows.length rows.length sz rows :=
  ⟨rfl, Nat.le_refl _, by unfold maxLen; omega, hw, fun _ => ⟨g, 0, rfl, h.lt, fun i r hr j u hu => by
    rw [Nat.zero_add, h.cell]
    exact rowsA_get hw hr hu⟩⟩

/-! A row of the call's own, behind which its block may hold more. -/
def RowX (w : World) (g : Nat) (t : TypeId) (rows : List (List Value)) : Prop := ∃ ex, Blk w g t (rowsA rows ++ ex)
theorem RowX.ext {w w' : World} {g : Nat} {t : TypeId} {rows : List (List Value)} (h : RowX w g t rows) (e : Ext w w') : RowX w' g t rows := by
  obtain ⟨ex, hb⟩ := h
  exact ⟨ex, hb.ext e⟩
theorem RowX.drew {w : World} {g : Nat} {t : TypeId} {rows : List (List Value)} (h : RowX w g t rows) : RowX w.drew g t rows := h
theorem RowX.lt {w : World} {g : Nat} {t : TypeId} {rows : List (List Value)} (h : RowX w g t rows) : g < w.heap.size := by
  obtain ⟨ex, hb⟩ := h
  exact hb.lt
theorem RowX.frozen {w : World} {g : Nat} {t : TypeId} {rows : List (List Value)} (h : RowX w g t rows) (i : Nat) : w.frozen? ⟨g, i, none⟩ = false := by
  obtain ⟨ex, hb⟩ := h
  exact hb.frozen i
theorem RowX.cell {w : World} {g : Nat} {t : TypeId} {rows : List (List Value)} {sz : Nat} (h : RowX w g t rows) (hw : ∀ r ∈ rows, r.length = sz) {i j : Nat} {r : List Value} {u : Value} (hr : rows[i]? = some r) (hu : r[j]? = some u) : w.cell? ⟨g, i * sz + j, none⟩ = some u := by
  obtain ⟨ex, hb⟩ := h
  have h1 := rowsA_get hw hr hu
  have hlt := (Array.getElem?_eq_some_iff.1 h1).1
  rw [hb.cell, Array.getElem?_append_left hlt]
  exact h1
theorem RowX.of_own {w : World} {base g n cap : Nat} {e : TypeId} {sz : Nat} {rows : List (List Value)} (h : w.ownsRow base e sz (.slice (some ⟨g, 0, none⟩) n cap) n rows.flatten) : RowX w g e rows ∧ base ≤ g ∧ n ≤ cap ∧ cap ≤ maxLen := by
  rcases h.2 with ⟨h0, _⟩ | ⟨g', cap', cur, hv, hg, hb, h1, h2, _, h4⟩
  · cases h0
  · cases hv
    refine ⟨⟨(cur.toList.drop (n * sz)).toArray, ?_⟩, hg, h1, h2⟩
    have e : rowsA rows ++ (cur.toList.drop (n * sz)).toArray = cur := by
      unfold rowsA
      rw [← h4]
      simp
    rw [e]
    exact hb
theorem setsA_append : ∀ (vs : List Value) (c ex : Array Value) (o : Nat), o + vs.length ≤ c.size → setsA (c ++ ex) o vs = setsA c o vs ++ ex
  | [], _, _, _, _ => rfl
  | v :: vs, c, ex, o, h => by
    have hl : (v :: vs).length = vs.length + 1 := rfl
    unfold setsA
    rw [show (c ++ ex).setIfInBounds o v = c.setIfInBounds o v ++ ex from by
      rw [Array.setIfInBounds_append, if_pos (by omega)]]
    exact setsA_append vs _ ex (o + 1) (by rw [Array.size_setIfInBounds]; omega)
theorem rowsA_sets {rows : List (List Value)} {sz : Nat} (hw : ∀ r ∈ rows, r.length = sz) {k : Nat} (hk : k < rows.length) {vs : List Value} (hv : vs.length = sz) : setsA (rowsA rows) (k * sz) vs = rowsA (rows.set k vs) ∧ k * sz + vs.length ≤ (rowsA rows).size := by
  have w0 : World := default
  have hsz : k * sz + vs.length ≤ (rowsA rows).size := by
    rw [rowsA_size hw, hv]
    have : (k + 1) * sz ≤ rows.length * sz := Nat.mul_le_mul_right _ hk
    rwa [Nat.succ_mul] at this
  have hB := Blk.new w0 (rowsA rows) 0
  have h1 := hB.rowN hw hk vs hv
  have h2 := setsW_blk vs (k * sz) hB
  unfold Blk at h1 h2
  rw [h1] at h2
  injection h2 with h2
  injection h2 with h2
  exact ⟨h2.symm, hsz⟩
theorem RowX.store {w : World} {g : Nat} {t : TypeId} {rows : List (List Value)} {sz : Nat} (h : RowX w g t rows) (hw : ∀ r ∈ rows, r.length = sz) {k : Nat} (hk : k < rows.length) (vs : List Value) (hv : vs.length = sz) : RowX (setsW w g (k * sz) vs) g t (rows.set k vs) := by
  obtain ⟨ex, hb⟩ := h
  obtain ⟨q1, q2⟩ := rowsA_sets hw hk hv
  refine ⟨ex, ?_⟩
  have := setsW_blk vs (k * sz) hb
  rwa [setsA_append _ _ _ _ q2, q1] at this
theorem RowX.slice {w : World} {g : Nat} {t : TypeId} {rows : List (List Value)} {sz n cap : Nat} (h : RowX w g t rows) (hw : ∀ r ∈ rows, r.length = sz) (hn : rows.length = n) (h1 : n ≤ cap) (h2 : cap ≤ maxLen) : SliceIs w (some ⟨g, 0, none⟩) n cap sz rows :=
  ⟨hn, h1, h2, hw, fun _ => ⟨g, 0, rfl, h.lt, fun i r hr j u hu => by
    rw [Nat.zero_add]
    exact h.cell hw hr hu⟩⟩
/-- A slice that is not empty, cell by cell. -/
theorem SliceIs.adds {w : World} {A : Option Addr} {n cap sz : Nat} {rows : List (List Value)} (h : SliceIs w A n cap sz rows) (hn : 0 < n) (hsz : 0 < sz) : ∃ b off, A = some ⟨b, off, none⟩ ∧ ∀ j u, rows.flatten[j]? = some u → w.cell? ((⟨b, off, none⟩ : Addr).add j) = some u := by
  obtain ⟨b, off, hA, _, hc⟩ := h.cells hn
  refine ⟨b, off, hA, fun j u hu => ?_⟩
  have e : j / sz * sz + j % sz = j := Nat.div_add_mod' j sz
  rw [← e, rowsF_get h.wide (Nat.mod_lt _ hsz)] at hu
  obtain ⟨r, hr, hu⟩ := Option.bind_eq_some_iff.1 hu
  have := hc _ _ hr _ _ hu
  rw [Nat.add_assoc, e] at this
  unfold Addr.add
  split
  · subst_vars
    exact this
  · exact this
end Go.Proofs.YtaaeapjnjjbglaaDoor

namespace Go.Proofs.YtaaeapjnjjbglaaDoor
open Go.RowKit

theorem ownApart {w : World} {b b' : Nat} {e e' : TypeId} {sz sz' : Nat} {v v' : Value} {n n' : Nat} {xs xs' : List Value} (h : w.ownsRow b e sz v n xs) (h' : w.ownsRow b' e' sz' v' n' xs') (he : e ≠ e') : v.ownBlock = none ∨ v.ownBlock ≠ v'.ownBlock := by
  rcases h.2 with ⟨rfl, _⟩ | ⟨g, cap, cur, rfl, _, hg, _⟩
  · exact Or.inl rfl
  · right
    rcases h'.2 with ⟨rfl, _⟩ | ⟨g', cap', cur', rfl, _, hg', _⟩
    · intro e1
      cases e1
    · intro e1
      simp only [Value.ownBlock, Option.some.injEq] at e1
      subst e1
      rw [hg] at hg'
      simp only [Option.some.injEq, Obj.cells.injEq] at hg'
      exact he hg'.2.1
theorem ownGrown {w w' : World} {base : Nat} {e : TypeId} {size : Nat} {v : Value} {n : Nat} {xs : List Value} {row : Option Nat} (h : w.ownsRow base e size v n xs) (hg : w.grownBy w' row) (hr : v.ownBlock = none ∨ v.ownBlock ≠ row) :
    w'.ownsRow base e size v n xs :=
  own_only (K := fun k => row = some k) h (Only.of_grown hg fun _ e => e) fun r hr' e => by
    rcases hr with hr | hr
    · rw [hr] at hr'; cases hr'
    · exact hr (hr'.trans e.symm)
theorem ownForm {w : World} {base : Nat} {e : TypeId} {size : Nat} {v : Value} {n : Nat} {xs : List Value} (h : w.ownsRow base e size v n xs) : ∃ A cap, v = .slice A n cap := by
  rcases h.2 with ⟨rfl, rfl⟩ | ⟨g, cap, cur, hv, _⟩
  · exact ⟨none, 0, rfl⟩
  · exact ⟨_, cap, hv⟩
theorem blkGrown {w w' : World} {g : Nat} {t : TypeId} {cs : Array Value} {b : Nat} {e : TypeId} {sz : Nat} {v : Value} {n : Nat} {xs : List Value} (h : Blk w g t cs) (own : w.ownsRow b e sz v n xs) (hg : w.grownBy w' v.ownBlock) (hne : t ≠ e) : Blk w' g t cs := by
  refine h.grown hg fun e1 => ?_
  obtain ⟨cs', h'⟩ := own_typed own e1.symm
  unfold Blk at h h'
  rw [h] at h'
  cases h'
  exact hne rfl
section
variable {P : Program} {w : World} {ops : Array Oper} {o : Oper} {a : Act} {K : Act → World → Prop} {Q : Exit → Act → World → Prop} {F : Prop}
/-- append(s, x...) onto a row of the call's own, as one step of a region. -/
theorem step_append_any (hgd : o.guard = none) (s x : Operand) (t : TypeId) (ho : o.op = .call { callee := .builtin .append, args := #[s, x], argTypes := #[t, t] })
    (base : Nat) (e : TypeId) (i : TypeInfo) (z : Value) (size bytes : Nat) (ht : P.underlying t = some (.slice e)) (hi : P.info? e = some i) (hz : i.zero = some z)
    (hsize : i.size = size) (hby : i.bytes = bytes) (hzs : z.cells.size = size) (hsz : 0 < size)
    (v : Value) (n : Nat) (xs : List Value) (hs : a.eval s = v) (hown : w.ownsRow base e size v n xs)
    (A : Option Addr) (m c : Nat) (rows : List (List Value)) (hx : a.eval x = .slice A m c) (hsrc : SliceIs w A m c size rows) (hnil : A = none → c = 0) (h1 : ∀ u ∈ rows.flatten, u.oneCell' = true)
    (h63 : n + m ≤ maxLen) (hbytes : (n + m) * bytes ≤ 140737488355328) (hbase : base ≤ w.heap.size)
    (h : ∀ v' w', w'.ownsRow base e size v' (n + m) (xs ++ rows.flatten) → w.grownBy w' v.ownBlock → K (a.put o.dst v') w') : if Region.wanted o (yielded ops a.tmps) = true then o.wp P a w K Q else F := by
  rw [if_pos (by simp [Region.wanted, hgd])]
  have hfl : rows.flatten.length = m * size := by rw [rowsF_len hsrc.wide, hsrc.len]
  cases A with
  | none =>
    obtain rfl := hnil rfl
    obtain rfl : m = 0 := by
      have := hsrc.le
      omega
    have e0 : rows.flatten = [] := List.eq_nil_of_length_eq_zero (by rw [hfl, Nat.zero_mul])
    rw [e0, List.append_nil] at h
    have hrun := run_append_owned_none (P := P) (w := w) base t o.type e i size ht hi v n xs hown
    unfold Oper.wp
    simp [execOp, ho, resolve, invoke, builtin, hs, hx, hrun, Result.andThen]
    exact h _ _ hown (World.grownBy.refl _ _)
  | some ad =>
    refine wp_append_own w s x t ho base e i z size bytes ht hi hz hsize hby hzs hsz v n xs hs hown ad m c rows.flatten hx hfl (fun j u hu => ?_) h1 h63 hbytes hbase fun v' w' h2 h3 _ => h v' w' h2 h3
    by_cases hm : 0 < m
    · obtain ⟨b, off, hA, hc⟩ := hsrc.adds hm hsz
      cases hA
      exact hc j u hu
    · obtain rfl : m = 0 := by omega
      have e0 : rows.flatten = [] := List.eq_nil_of_length_eq_zero (by rw [hfl, Nat.zero_mul])
      rw [e0] at hu
      simp at hu
end
end Go.Proofs.YtaaeapjnjjbglaaDoor
