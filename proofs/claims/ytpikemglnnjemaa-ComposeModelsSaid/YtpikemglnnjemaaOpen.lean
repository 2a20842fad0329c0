/- Opening a law's arguments: slices of whatever element type as rows of cells; the law's last step. -/
import Derived.Test.YtpikemglnnjemaaSlice
import Derived.ProofKit
import Derived.Deep.Slices
import Derived.Carry
namespace Go.Proofs.Ytpikemglnnjemaa
open Go.RowKit Go.ChangeShapes Go.WideShapes Go.ChangeAt Go.Deep

theorem Try.own : ownKnob Try.prog.godebug = none := by kernel_rfl
theorem Try.laidOut : laidOutB Try.prog = true := by kernel_rfl

theorem list_of {α : Type} (p : Nat → α → Prop) (n : Nat) (h : ∀ i, i < n → ∃ x, p i x) : ∃ l : List α, l.length = n ∧ ∀ i x, l[i]? = some x → p i x := by
  induction n with
  | zero => exact ⟨[], rfl, fun i x hx => by simp at hx⟩
  | succ n ih =>
    obtain ⟨l, hl, hp⟩ := ih (fun i hi => h i (by omega))
    obtain ⟨x, hx⟩ := h n (by omega)
    refine ⟨l ++ [x], by simp [hl], fun i y hy => ?_⟩
    rcases Nat.lt_or_ge i n with hi | hi
    · rw [List.getElem?_append_left (by omega)] at hy
      exact hp i y hy
    · rw [List.getElem?_append_right (by omega), hl] at hy
      obtain rfl : i = n := by
        rcases Nat.eq_or_lt_of_le hi with h' | h'
        · exact h'.symm
        · rw [List.getElem?_eq_none (by simp; omega)] at hy; cases hy
      simp at hy
      subst hy
      exact hx

section
variable {H : Type} {enc : TypeId × Value → H} {P : Program} {w : World} {base : Nat} {spare : Nat → Bool} {held : Bool}

theorem rows_of_trod {t e : TypeId} {fuel sz : Nat} {A : Option Addr} {n cap : Nat} {x : DataW H × List MemPlace} (ht : P.underlying t = some (.slice e)) (hC : P.cellsOf e = sz) (hsz : 0 < sz)
    (h : DataW.trod enc P w base spare held fuel t [.slice A n cap] = some x) :
    ∃ rows : List (List Value), SliceIs w A n cap sz rows ∧ ∀ r ∈ rows, ∃ (m : Nat) (y : DataW H × List MemPlace), DataW.trod enc P w base spare held m e r = some y := by
  rcases open_slice ht h with ⟨h0, _⟩ | ⟨a, len, cap', m, fl, D, Pl, hcs, _, hl, hm, hmm, _, hi⟩
  · simp only [List.cons.injEq, Value.slice.injEq, and_true] at h0
    obtain ⟨rfl, rfl, rfl⟩ := h0
    exact ⟨[], ⟨rfl, Nat.le_refl _, by unfold maxLen; omega, by simp, fun h => by omega⟩, by simp⟩
  · simp only [List.cons.injEq, Value.slice.injEq, and_true] at hcs
    obtain ⟨rfl, rfl, rfl⟩ := hcs
    rw [hC] at hi
    have hnm : n ≤ m := by rw [hmm]; split <;> omega
    obtain ⟨rows, hlen, hrow⟩ := list_of (fun i r => w.cells? base (a.add (i * sz)) sz = some r ∧ DataW.trod enc P w base spare held fl e r = some (D i, Pl i)) n (fun i hin => hi i (by omega))
    refine ⟨rows, ⟨hlen, hl, hm, ?_, fun hn => ?_⟩, ?_⟩
    · intro r hr
      obtain ⟨i, hir⟩ := List.getElem?_of_mem hr
      exact (World.cells?_some (hrow i r hir).1).2.1
    · have h0 := hi 0 (by omega)
      obtain ⟨cs0, hc0, _⟩ := h0
      obtain ⟨_, hl0, hat0⟩ := World.cells?_some hc0
      have hcell0 := hat0 0 hsz
      have hsome : (w.cell? a).isSome = true := by
        have : (a.add (0 * sz)).add 0 = a := by simp [Addr.add]
        rw [this] at hcell0
        rw [hcell0, List.getElem?_eq_getElem (by omega)]
        rfl
      obtain ⟨b, off, spot⟩ := a
      have hspot : spot = none := by
        cases spot with
        | none => rfl
        | some q =>
          exfalso
          unfold World.cell? at hsome
          simp only at hsome
          split at hsome <;> simp at hsome
      subst hspot
      obtain ⟨u, hu⟩ := Option.isSome_iff_exists.1 hsome
      refine ⟨b, off, rfl, World.block_lt_of_cell? w _ hu, fun i r hr j u hu => ?_⟩
      obtain ⟨_, hlr, hat⟩ := World.cells?_some (hrow i r hr).1
      have hj : j < sz := by
        rcases Nat.lt_or_ge j r.length with h' | h'
        · omega
        · rw [List.getElem?_eq_none h'] at hu; cases hu
      have hadd : ((⟨b, off, none⟩ : Addr).add (i * sz)).add j = ⟨b, off + i * sz + j, none⟩ := by
        unfold Addr.add
        by_cases h1 : i * sz = 0 <;> by_cases h2 : j = 0 <;> simp [h1, h2]
      rw [← hadd, hat j hj]
      exact hu
    · intro r hr
      obtain ⟨i, hir⟩ := List.getElem?_of_mem hr
      exact ⟨_, _, (hrow i r hir).2⟩

/-- All arguments read behind the call as they did, where the world has only grown. -/
theorem trodAll_ext {ts : List TypeId} (hl : laidOutB P = true) {W W' : World} (hb : Ext W W') :
    ∀ {vs : List Value} {ds : List (DataW H)} {ps : List MemPlace}, (∀ t ∈ ts, P.readableRec t = true ∧ t < P.types.size) → DataW.TrodAll enc P W 0 (fun _ => true) true ts vs ds ps → (∀ x ∈ ps, x.block < W.heap.size) →
      DataW.TrodAll enc P W' 0 (fun b => decide (b < W.heap.size)) true ts vs ds ps := by
  induction ts with
  | nil =>
    intro vs ds ps _ h _
    obtain ⟨rfl, rfl, rfl⟩ := trodAll_nil h
    exact trodAll_mk0
  | cons t ts ih =>
    intro vs ds ps hr h hlt
    obtain ⟨v, vs', d, ds', p, q, rfl, rfl, rfl, hd, hrest⟩ := trodAll_cons h
    exact ⟨p, q, Below.trod hl (hr t (by simp)).1 (hr t (by simp)).2 hd hb (fun x hx => hlt x (by simp [hx])), ih (fun t' ht' => hr t' (by simp [ht'])) hrest (fun x hx => hlt x (by simp [hx])), rfl⟩
end
end Go.Proofs.Ytpikemglnnjemaa
