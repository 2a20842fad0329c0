/- Opening a law's arguments: slices of whatever element type as rows of cells; the law's last step. The kinds and the bricks that chapter 7 makes, as the lattice reads them. -/
import Derived.Test.YtaaeapjnjjbglaaGreatDoorCd1
import Derived.Test.YtaaeapjnjjbglaaGreatDoorCd7
import Derived.Test.YtaaeapjnjjbglaaGreatDoorCd13
import Derived.Test.YtaaeapjnjjbglaaGreatDoorCd14
import Derived.Test.YtaaeapjnjjbglaaGreatDoorCd17
import Derived.ProofKit
import Derived.Deep.Slices
import Derived.Carry

namespace Go.Proofs.YtaaeapjnjjbglaaGreatDoor
open Go.RowKit Go.ChangeShapes Go.WideShapes Go.ChangeAt Go.Deep

theorem Tryz.own : ownKnob Tryz.prog.godebug = none := by kernel_rfl
theorem Tryz.laidOut : laidOutB Tryz.prog = true := by kernel_rfl

theorem list_of {α : Type} (p : Nat → α → Prop) (n : Nat) (h : ∀ i, i < n → ∃ x, p i x) : ∃ l : List α, l.length = n ∧ ∀ i x, l[i]? = some x → p i x := by
  induction n with
  | zero => exact ⟨[], rfl, fun i x hx => by simp at hx⟩
  | succ n ih =>
    obtain ⟨l, hl, hp⟩ := ih (fun i hi => h i (by omega))
    obtain ⟨x, hx⟩ := h n (by omega)
    refine ⟨l ++ [x], by simp [hl], fun i y hy => ?_⟩
    rcases Nat.lt_or_ge i n with hi | hi
    · rw [List.getElem?_append_left (by omega)] at hy
      exact hp i y hy
    · rw [List.getElem?_append_right (by omega), hl] at hy
      obtain rfl : i = n := by
        rcases Nat.eq_or_lt_of_le hi with h' | h'
        · exact h'.symm
        · rw [List.getElem?_eq_none (by simp; omega)] at hy; cases hy
      simp at hy
      subst hy
      exact hx

section
variable {H : Type} {enc : TypeId × Value → H} {P : Program} {w : World} {base : Nat} {spare : Nat → Bool} {held : Bool}

theorem rows_of_trod {t e : TypeId} {fuel sz : Nat} {A : Option Addr} {n cap : Nat} {x : DataW H × List MemPlace} (ht : P.underlying t = some (.slice e)) (hC : P.cellsOf e = sz) (hsz : 0 < sz)
    (h : DataW.trod enc P w base spare held fuel t [.slice A n cap] = some x) :
    ∃ rows : List (List Value), SliceIs w A n cap sz rows ∧ ∀ r ∈ rows, ∃ (m : Nat) (y : DataW H × List MemPlace), DataW.trod enc P w base spare held m e r = some y := by
  rcases open_slice ht h with ⟨h0, _⟩ | ⟨a, len, cap', m, fl, D, Pl, hcs, _, hl, hm, hmm, _, hi⟩
  · simp only [List.cons.injEq, Value.slice.injEq, and_true] at h0
    obtain ⟨rfl, rfl, rfl⟩ := h0
    exact ⟨[], ⟨rfl, Nat.le_refl _, by unfold maxLen; omega, by simp, fun h => by omega⟩, by simp⟩
  · simp only [List.cons.injEq, Value.slice.injEq, and_true] at hcs
    obtain ⟨rfl, rfl, rfl⟩ := hcs
    rw [hC] at hi
    have hnm : n ≤ m := by rw [hmm]; split <;> omega
    obtain ⟨rows, hlen, hrow⟩ := list_of (fun i r => w.cells? base (a.add (i * sz)) sz = some r ∧ DataW.trod enc P w base spare held fl e r = some (D i, Pl i)) n (fun i hin => hi i (by omega))
    refine ⟨rows, ⟨hlen, hl, hm, ?_, fun hn => ?_⟩, ?_⟩
    · intro r hr
      obtain ⟨i, hir⟩ := List.getElem?_of_mem hr
      exact (World.cells?_some (hrow i r hir).1).2.1
    · have h0 := hi 0 (by omega)
      obtain ⟨cs0, hc0, _⟩ := h0
      obtain ⟨_, hl0, hat0⟩ := World.cells?_some hc0
      have hcell0 := hat0 0 hsz
      have hsome : (w.cell? a).isSome = true := by
        have : (a.add (0 * sz)).add 0 = a := by simp [Addr.add]
        rw [this] at hcell0
        rw [hcell0, List.getElem?_eq_getElem (by omega)]
        rfl
      obtain ⟨b, off, spot⟩ := a
      have hspot : spot = none := by
        cases spot with
        | none => rfl
        | some q =>
          exfalso
          unfold World.cell? at hsome
          simp only at hsome
          split at hsome <;> simp at hsome
      subst hspot
      obtain ⟨u, hu⟩ := Option.isSome_iff_exists.1 hsome
      refine ⟨b, off, rfl, World.block_lt_of_cell? w _ hu, fun i r hr j u hu => ?_⟩
      obtain ⟨_, hlr, hat⟩ := World.cells?_some (hrow i r hr).1
      have hj : j < sz := by
        rcases Nat.lt_or_ge j r.length with h' | h'
        · omega
        · rw [List.getElem?_eq_none h'] at hu; cases hu
      have hadd : ((⟨b, off, none⟩ : Addr).add (i * sz)).add j = ⟨b, off + i * sz + j, none⟩ := by
        unfold Addr.add
        by_cases h1 : i * sz = 0 <;> by_cases h2 : j = 0 <;> simp [h1, h2]
      rw [← hadd, hat j hj]
      exact hu
    · intro r hr
      obtain ⟨i, hir⟩ := List.getElem?_of_mem hr
      exact ⟨_, _, (hrow i r hir).2⟩

/-- All arguments read behind the call as they did, where the world has only grown. -/
theorem trodAll_ext {ts : List TypeId} (hl : laidOutB P = true) {W W' : World} (hb : Ext W W') :
    ∀ {vs : List Value} {ds : List (DataW H)} {ps : List MemPlace}, (∀ t ∈ ts, P.readableRec t = true ∧ t < P.types.size) → DataW.TrodAll enc P W 0 (fun _ => true) true ts vs ds ps → (∀ x ∈ ps, x.block < W.heap.size) →
      DataW.TrodAll enc P W' 0 (fun b => decide (b < W.heap.size)) true ts vs ds ps := by
  induction ts with
  | nil =>
    intro vs ds ps _ h _
    obtain ⟨rfl, rfl, rfl⟩ := trodAll_nil h
    exact trodAll_mk0
  | cons t ts ih =>
    intro vs ds ps hr h hlt
    obtain ⟨v, vs', d, ds', p, q, rfl, rfl, rfl, hd, hrest⟩ := trodAll_cons h
    exact ⟨p, q, Below.trod hl (hr t (by simp)).1 (hr t (by simp)).2 hd hb (fun x hx => hlt x (by simp [hx])), ih (fun t' ht' => hr t' (by simp [ht'])) hrest (fun x hx => hlt x (by simp [hx])), rfl⟩
end
end Go.Proofs.YtaaeapjnjjbglaaGreatDoor

namespace Go.Proofs.YtaaeapjnjjbglaaGreatDoor
open Go.RowKit

def cellPt (p : Plate) (i : Nat) : Lat.Pt := ⟨(i : Int) % p.W, (i : Int) / p.W, 0⟩
def knbPt (p : Plate) (i : Nat) (d s : Int) : Lat.Knb := ⟨cellPt p i, d, s⟩
def knbsL (p : Plate) : Nat → List Lat.Knb
  | 0 => []
  | n + 1 => knbsL p n ++ [knbPt p n 4 1, knbPt p n 5 2]
def kndOf (p : Plate) : Lat.Knd := ⟨(List.range (areaP p)).map (cellPt p), knbsL p (areaP p), p.W * p.D⟩
theorem knbsL_cs (p : Plate) : ∀ n, (knbsL p n).map Lat.Knb.cs = knobRows p n
  | 0 => rfl
  | n + 1 => by
    show (knbsL p n ++ [knbPt p n 4 1, knbPt p n 5 2]).map Lat.Knb.cs = knobRows p n ++ [kknob p n 4 1, kknob p n 5 2]
    rw [List.map_append, knbsL_cs p n]
    rfl
theorem knbsL_len (p : Plate) : ∀ n, (knbsL p n).length = 2 * n
  | 0 => rfl
  | n + 1 => by
    show (knbsL p n ++ [knbPt p n 4 1, knbPt p n 5 2]).length = _
    rw [List.length_append, knbsL_len p n]
    simp
    omega
theorem knbsL_byte (p : Plate) : ∀ n, ∀ x ∈ knbsL p n, x.byte
  | 0, x, h => by cases h
  | n + 1, x, h => by
    have h : x ∈ knbsL p n ++ [knbPt p n 4 1, knbPt p n 5 2] := h
    rcases List.mem_append.1 h with h | h
    · exact knbsL_byte p n x h
    · simp only [List.mem_cons, List.not_mem_nil, or_false] at h
      rcases h with rfl | rfl <;> (unfold Lat.Knb.byte knbPt; simp)
theorem kndOf_cells (p : Plate) : (kndOf p).cells.map Lat.Pt.cs = cellRows p (areaP p) := by
  unfold kndOf cellRows
  rw [List.map_map]
  rfl
theorem kndOf_len (p : Plate) : (kndOf p).cells.length = areaP p := by simp [kndOf]
theorem kndOf_klen (p : Plate) : (kndOf p).knobs.length = 2 * areaP p := knbsL_len p _
theorem kind_at {w : World} {T : Nat} {r : List Value} {p : Plate} (h : KindOwn w T r p) : ∃ q : Lat.KAt, r = (kndOf p).cs q ∧ Lat.KindAt w q (kndOf p) := by
  obtain ⟨CA, cc, KA, kc, h1, h2, h3⟩ := h
  refine ⟨⟨CA, cc, KA, kc⟩, ?_, ⟨?_, ?_, knbsL_byte p _⟩⟩
  · rw [h1]
    unfold Lat.Knd.cs
    rw [kndOf_len, kndOf_klen]
    rfl
  · show SliceIs w CA (kndOf p).cells.length cc 3 ((kndOf p).cells.map Lat.Pt.cs)
    rw [kndOf_cells, kndOf_len]
    exact own_any (by decide) (fun r hr => by obtain ⟨x, y, z, rfl⟩ := cellRows_row p _ r hr; rfl) (cellRows_len p _) h2
  · show SliceIs w KA (kndOf p).knobs.length kc 5 ((kndOf p).knobs.map Lat.Knb.cs)
    rw [show (kndOf p).knobs = knbsL p (areaP p) from rfl, knbsL_cs, knbsL_len]
    exact own_any (by decide) (fun r hr => by obtain ⟨x, y, z, d, s, rfl⟩ := knobRows_row p _ r hr; rfl) (knobRows_len p _) h3
theorem kinds_at {w : World} {T : Nat} {l : List Plate} {rows : List (List Value)} {OA : Option Addr} {oc : Nat} (own : w.ownsRow T 74 3 (.slice OA l.length oc) l.length rows.flatten) (h : KindsOwn w T l l.length rows) :
    ∃ qs : List (Lat.Knd × Lat.KAt), qs.map (·.1) = l.map kndOf ∧ Lat.Kinds w OA oc qs := by
  obtain ⟨hn, hr⟩ := h
  obtain ⟨qs, hl, hq⟩ := list_of (fun i (q : Lat.Knd × Lat.KAt) => ∃ p r, l[i]? = some p ∧ rows[i]? = some r ∧ q.1 = kndOf p ∧ r = q.1.cs q.2 ∧ Lat.KindAt w q.2 q.1) l.length (fun i hi => by
    have hp := List.getElem?_eq_getElem hi
    have hr2 := List.getElem?_eq_getElem (show i < rows.length by omega)
    obtain ⟨q, h1, h2⟩ := kind_at (hr i _ _ hr2 hp).1
    exact ⟨(kndOf l[i], q), _, _, hp, hr2, rfl, h1, h2⟩)
  have e1 : qs.map (·.1) = l.map kndOf := by
    apply List.ext_getElem?
    intro i
    rw [List.getElem?_map, List.getElem?_map]
    rcases Nat.lt_or_ge i l.length with hi | hi
    · obtain ⟨q, hqi⟩ : ∃ q, qs[i]? = some q := ⟨_, List.getElem?_eq_getElem (by omega)⟩
      obtain ⟨p, r, h1, -, h3, -⟩ := hq i q hqi
      rw [hqi, h1, Option.map_some, Option.map_some, h3]
    · rw [List.getElem?_eq_none (by omega), List.getElem?_eq_none hi]
      rfl
  have e2 : qs.map (fun q => q.1.cs q.2) = rows := by
    apply List.ext_getElem?
    intro i
    rw [List.getElem?_map]
    rcases Nat.lt_or_ge i l.length with hi | hi
    · obtain ⟨q, hqi⟩ : ∃ q, qs[i]? = some q := ⟨_, List.getElem?_eq_getElem (by omega)⟩
      obtain ⟨p, r, -, h2, -, h4, -⟩ := hq i q hqi
      rw [hqi, h2, Option.map_some, h4]
    · rw [List.getElem?_eq_none (by omega), List.getElem?_eq_none (by omega)]
      rfl
  refine ⟨qs, e1, ⟨?_, fun q hm => ?_⟩⟩
  · rw [e2, hl]
    exact own_any (by decide) (fun r hm => by
      obtain ⟨k, hk⟩ := List.getElem?_of_mem hm
      have hk2 : k < l.length := by have := (List.getElem?_eq_some_iff.1 hk).1; omega
      exact (hr k r _ hk (List.getElem?_eq_getElem hk2)).2) hn own
  · obtain ⟨k, hk⟩ := List.getElem?_of_mem hm
    obtain ⟨p, r, -, -, -, -, h⟩ := hq k q hk
    exact h
/-! ### bricks -/
def brkOf (s : Shape) (l : List Plate) (a : Laid) : Lat.Brk := ⟨a.plate, ⟨brickX l a, a.y, a.z⟩, (if a.turned then 1 else 0), s.colorAt a.x a.y a.z⟩
theorem brkOf_cs (s : Shape) (l : List Plate) (a : Laid) : (brkOf s l a).cs = brickCells s l a := by
  unfold brkOf Lat.Brk.cs brickCells
  cases a.turned <;> rfl
theorem bricks_at {w : World} {T : Nat} {s : Shape} {l : List Plate} {c : List Laid} {MA : Option Addr} {mc : Nat} (hb : ∀ x ∈ s.cells, byteOk x) (own : w.ownsRow T 60 6 (.slice MA c.length mc) c.length (bricksV s l c c.length)) : Lat.Bricks w MA mc (c.map (brkOf s l)) := by
  refine ⟨?_, fun b hm => ?_⟩
  · rw [List.length_map, List.map_map]
    have e : (c.map (Lat.Brk.cs ∘ brkOf s l)) = c.map (brickCells s l) := List.map_congr_left fun a _ => brkOf_cs s l a
    rw [e]
    unfold bricksV at own
    rw [List.take_length] at own
    exact own_any (by decide) (fun r hr => by obtain ⟨a, -, rfl⟩ := List.mem_map.1 hr; rfl) (by rw [List.length_map]) own
  · obtain ⟨a, -, rfl⟩ := List.mem_map.1 hm
    refine ⟨?_, colorAt_lo s hb _ _ _⟩
    show 0 ≤ (if a.turned then (1 : Int) else 0) ∧ (if a.turned then (1 : Int) else 0) ≤ 255
    split <;> omega
/-- The brick's cells are the laid plate's. -/
theorem placed_has {l : List Plate} {a : Laid} (okl : platesB l = true) (hp : 0 ≤ a.plate ∧ a.plate < l.length) {q : Lat.Pt} (hq : q ∈ Lat.placeP (kndOf (plateAt l a.plate.toNat)).cells (if a.turned then 1 else 0) ⟨brickX l a, a.y, a.z⟩) : hasB l a q.x q.y q.z = true := by
  have hpl : l[a.plate.toNat]? = some (plateAt l a.plate.toNat) := by
    unfold plateAt
    rw [List.getD_eq_getElem?_getD, List.getElem?_eq_getElem (by omega)]
    rfl
  have pok := plate_ok okl hpl
  obtain ⟨p, hpp⟩ : ∃ p, plateAt l a.plate.toNat = p := ⟨_, rfl⟩
  have hx : brickX l a = if a.turned then a.x + p.D - 1 else a.x := by unfold brickX; rw [hpp]
  have hw : sizeW l a = if a.turned then p.D else p.W := by unfold sizeW; rw [hpp]
  have hd : sizeD l a = if a.turned then p.W else p.D := by unfold sizeD; rw [hpp]
  rw [hpp] at hq pok
  obtain ⟨c0, hc0, rfl⟩ := List.mem_map.1 hq
  obtain ⟨i, hi, rfl⟩ := List.mem_map.1 (show c0 ∈ (List.range (areaP p)).map (cellPt p) from hc0)
  have hi := List.mem_range.1 hi
  have w1 := pok.w
  have d1 := pok.d
  have e0 := Int.emod_nonneg (i : Int) (show p.W ≠ 0 by omega)
  have e1 := Int.emod_lt_of_pos (i : Int) (show 0 < p.W by omega)
  have e2 : 0 ≤ (i : Int) / p.W := Int.ediv_nonneg (by omega) (by omega)
  have hprod : 0 ≤ p.W * p.D := Int.mul_nonneg (by omega) (by omega)
  have e3 : (i : Int) / p.W < p.D := by
    refine Int.ediv_lt_of_lt_mul (by omega) ?_
    unfold areaP at hi
    rw [Int.mul_comm]
    omega
  rw [hasB_iff, hw, hd, hx]
  cases a.turned
  · show (0 : Int) + a.z = a.z ∧ (a.x ≤ (i : Int) % p.W + a.x ∧ (i : Int) % p.W + a.x ≤ a.x + p.W - 1) ∧ a.y ≤ (i : Int) / p.W + a.y ∧ (i : Int) / p.W + a.y ≤ a.y + p.D - 1
    omega
  · show (0 : Int) + a.z = a.z ∧ (a.x ≤ -((i : Int) / p.W) + (a.x + p.D - 1) ∧ -((i : Int) / p.W) + (a.x + p.D - 1) ≤ a.x + p.D - 1) ∧ a.y ≤ (i : Int) % p.W + a.y ∧ (i : Int) % p.W + a.y ≤ a.y + p.W - 1
    omega
end Go.Proofs.YtaaeapjnjjbglaaGreatDoor
