/- Weakness, by sets and by definition: plain. seam, Weakness and Weak of the reference. Weakness of the reference. Together of the reference. Hangs and Weak of the reference. -/
import Derived.Test.YtaaeapjnjjbglaaDoorCm4

namespace Go.Proofs.YtaaeapjnjjbglaaDoor
open Go.RowKit

/-! ### the map of the pairs -/
theorem getK_pairs (es : List (Int × Int)) (q : Int × Int) : (∀ j, getK (pairsOf es) q = some j → es[j]? = some q) ∧ (getK (pairsOf es) q = none → q ∉ es) := by
  have h : ∀ n, ∀ es : List (Int × Int), es.length = n → (∀ j, getK (pairsOf es) q = some j → es[j]? = some q) ∧ (getK (pairsOf es) q = none → q ∉ es) := by
    intro n
    induction n with
    | zero =>
      intro es he
      obtain rfl := List.eq_nil_of_length_eq_zero he
      exact ⟨fun j hj => (by cases hj), fun _ => (by simp)⟩
    | succ n ih =>
      intro es he
      have hne : es ≠ [] := by
        rintro rfl
        simp at he
      rw [← List.dropLast_concat_getLast hne]
      generalize hp : es.getLast hne = p
      generalize hes : es.dropLast = es'
      have hl : es'.length = n := by rw [← hes]; simp [he]
      obtain ⟨i1, i2⟩ := ih es' hl
      rw [pairsOf_snoc, getK_putK]
      split
      · subst_vars
        exact ⟨fun j hj => (by cases hj; simp), fun h => (by cases h)⟩
      · rename_i hq
        constructor
        · intro j hj
          have := i1 j hj
          rw [List.getElem?_append_left (List.getElem?_eq_some_iff.1 this).1]
          exact this
        · intro hn
          rw [List.mem_append, List.mem_singleton, not_or]
          exact ⟨i2 hn, hq⟩
  exact h es.length es rfl
theorem over_lt {ab : List Int} {es : List (Int × Int)} {p : Int × Int} (h : 0 ≤ overAt ab es p) : es[(overAt ab es p).toNat]? = some (ab.getD p.1.toNat 0, ab.getD p.2.toNat 0) := by
  unfold overAt at h ⊢
  split at h
  · rename_i j hj
    rw [Int.toNat_natCast]
    exact (getK_pairs es _).1 j hj
  · omega
theorem over_iff {ab : List Int} {es : List (Int × Int)} {p : Int × Int} : 0 ≤ overAt ab es p ↔ (ab.getD p.1.toNat 0, ab.getD p.2.toNat 0) ∈ es := by
  constructor
  · intro h
    exact List.mem_of_getElem? (over_lt h)
  · intro h
    unfold overAt
    split
    · omega
    · rename_i hn
      exact absurd h ((getK_pairs es _).2 hn)

/-! ### by sets -/
def eds (s : Shape) : List (Int × Int) := edgesS s s.cells.length
def seamE (sets : List Nat) (p : Int × Int) : Bool := !(sets.any fun m => m.testBit p.1.toNat && m.testBit p.2.toNat)
def weakP (s : Shape) (sets : List Nat) (p : Int × Int) : Bool := decide (0 ≤ overAt (abv s) (eds s) p) && (seamE sets p && seamE sets ((eds s).getD (overAt (abv s) (eds s) p).toNat (0, 0)))
def weakN (s : Shape) (sets : List Nat) : Nat := (eds s).countP (weakP s sets)

/-! ### by definition -/
def seamB (s : Shape) (l : List Plate) (c : List Laid) (x y z : Int) (inX : Bool) : Bool :=
  decide (s.colorAt x y z ≠ 0) && (decide (s.colorAt (if inX then x + 1 else x) (if inX then y else y + 1) z ≠ 0) && decide (byI l c x y z ≠ byI l c (if inX then x + 1 else x) (if inX then y else y + 1) z))
def weakAt (s : Shape) (l : List Plate) (c : List Laid) (i : Nat) : Nat :=
  (if seamB s l c (s.px i) (s.py i) (s.pz i) true = true ∧ seamB s l c (s.px i) (s.py i) (s.pz i + 1) true = true then 1 else 0) +
  (if seamB s l c (s.px i) (s.py i) (s.pz i) false = true ∧ seamB s l c (s.px i) (s.py i) (s.pz i + 1) false = true then 1 else 0)
def weakTo (s : Shape) (l : List Plate) (c : List Laid) : Nat → Nat
  | 0 => 0
  | k + 1 => weakTo s l c k + weakAt s l c k

theorem seam_eq {s : Shape} {l : List Plate} {c : List Laid} {out : List Nat} {all : Nat} (ok : s.Ok) (h : SetIs s l c c.length out all) (hall : all = 2 ^ fullN s.cells - 1) {x y z u v : Int} (h1 : 0 ≤ s.num x y z) (h2 : 0 ≤ s.num u v z) :
    seamE out (s.num x y z, s.num u v z) = decide (byI l c x y z ≠ byI l c u v z) := by
  obtain ⟨i, hi, i1, i2⟩ := h.covers ok hall h1
  obtain ⟨j, hj, j1, j2⟩ := h.covers ok hall h2
  rw [byI_eq hi i1 i2, byI_eq hj j1 j2]
  obtain ⟨a, ha⟩ := Int.eq_ofNat_of_zero_le h1
  obtain ⟨b, hb⟩ := Int.eq_ofNat_of_zero_le h2
  have bit : ∀ k, k < c.length → ((out.getD k 0).testBit a = true ↔ k = i) ∧ ((out.getD k 0).testBit b = true ↔ k = j) := fun k hk => by
    have ck := h.cover k hk
    rw [cover_bits ok ck ha, cover_bits ok ck hb]
    exact ⟨⟨i2 k hk, fun e => by rw [e]; exact i1⟩, j2 k hk, fun e => by rw [e]; exact j1⟩
  unfold seamE
  rw [ha, hb]
  simp only [Int.toNat_natCast]
  have hany : (out.any fun m => m.testBit a && m.testBit b) = decide (i = j) := by
    rw [Bool.eq_iff_iff, List.any_eq_true, decide_eq_true_eq]
    constructor
    · rintro ⟨m, hm, hab⟩
      obtain ⟨k, hk⟩ := List.getElem?_of_mem hm
      have hlt : k < c.length := by rw [← h.len]; exact (List.getElem?_eq_some_iff.1 hk).1
      have hg : out.getD k 0 = m := by rw [List.getD_eq_getElem?_getD, hk]; rfl
      rw [Bool.and_eq_true] at hab
      have b1 := (bit k hlt).1.1 (by rw [hg]; exact hab.1)
      have b2 := (bit k hlt).2.1 (by rw [hg]; exact hab.2)
      omega
    · rintro rfl
      have hk : i < out.length := by rw [h.len]; exact hi
      have hg : out[i]? = some (out.getD i 0) := by
        rw [List.getD_eq_getElem?_getD, List.getElem?_eq_getElem hk]
        rfl
      refine ⟨out.getD i 0, List.mem_of_getElem? hg, ?_⟩
      rw [(bit i hi).1.2 rfl, (bit i hi).2.2 rfl]
      rfl
  rw [hany]
  by_cases e : i = j
  · subst e
    simp
  · have : ¬ ((i : Int) = (j : Int)) := by omega
    simp [e, this]
theorem seamB_eq {s : Shape} {l : List Plate} {c : List Laid} {out : List Nat} {all : Nat} (ok : s.Ok) (h : SetIs s l c c.length out all) (hall : all = 2 ^ fullN s.cells - 1) (x y z : Int) (inX : Bool) :
    seamB s l c x y z inX = (decide (0 ≤ s.num x y z) && (decide (0 ≤ s.num (if inX then x + 1 else x) (if inX then y else y + 1) z) && seamE out (s.num x y z, s.num (if inX then x + 1 else x) (if inX then y else y + 1) z))) := by
  unfold seamB
  have e1 := Shape.num_iff (s := s) x y z
  have e2 := Shape.num_iff (s := s) (if inX then x + 1 else x) (if inX then y else y + 1) z
  by_cases h1 : 0 ≤ s.num x y z
  · by_cases h2 : 0 ≤ s.num (if inX then x + 1 else x) (if inX then y else y + 1) z
    · rw [seam_eq ok h hall h1 h2]
      simp only [e1.1 h1, e2.1 h2, h1, h2, ne_eq, not_false_eq_true, decide_true, Bool.true_and]
    · have t1 : decide (s.colorAt (if inX then x + 1 else x) (if inX then y else y + 1) z ≠ 0) = false := decide_eq_false fun hh => h2 (e2.2 hh)
      rw [t1, decide_eq_false h2]
      simp
  · have t1 : decide (s.colorAt x y z ≠ 0) = false := decide_eq_false fun hh => h1 (e1.2 hh)
    rw [t1, decide_eq_false h1]
    simp
/-- The pair of a cell and the next one in x, or in y. -/
def pairAt (s : Shape) (x y z : Int) (inX : Bool) : Int × Int := (s.num x y z, s.num (if inX then x + 1 else x) (if inX then y else y + 1) z)
theorem pair_mem {s : Shape} (ok : s.Ok) {x y z : Int} {inX : Bool} : pairAt s x y z inX ∈ eds s ↔ 0 ≤ s.num x y z ∧ 0 ≤ s.num (if inX then x + 1 else x) (if inX then y else y + 1) z := by
  constructor
  · intro h
    have := edges_bd ok (Nat.le_refl _) _ h
    exact ⟨this.1.1, this.2.1⟩
  · rintro ⟨h1, h2⟩
    have hin : s.inside x y z = true := num_in (by omega)
    have hid := s.idx_in ok hin
    obtain ⟨p1, p2, p3⟩ := s.place_of ok hin
    have hne : s.num x y z = numOf s.cells (s.idx x y z).toNat := s.num_eq hin
    have key : ∀ k, (s.idx x y z).toNat < k → pairAt s x y z inX ∈ edgesS s k := by
      intro k
      induction k with
      | zero => intro h; omega
      | succ k ih =>
        intro hk
        unfold edgesS
        rcases Nat.lt_or_ge (s.idx x y z).toNat k with h | h
        · split
          · exact ih h
          · exact List.mem_append_left _ (ih h)
        · have e : k = (s.idx x y z).toNat := by omega
          rw [if_neg (by rw [e]; omega)]
          apply List.mem_append_right
          unfold edgesAt pairAt
          rw [e, p1, p2, p3, ← hne]
          cases inX
          · have h2 : 0 ≤ s.num x (y + 1) z := h2
            rw [if_pos h2]
            simp
          · have h2 : 0 ≤ s.num (x + 1) y z := h2
            rw [if_pos h2]
            simp
    exact key _ (by omega)
theorem weakP_eq {s : Shape} {l : List Plate} {c : List Laid} {out : List Nat} {all : Nat} (ok : s.Ok) (h : SetIs s l c c.length out all) (hall : all = 2 ^ fullN s.cells - 1) {x y z : Int} {inX : Bool} (h1 : 0 ≤ s.num x y z)
    (h2 : 0 ≤ s.num (if inX then x + 1 else x) (if inX then y else y + 1) z) : weakP s out (pairAt s x y z inX) = (seamB s l c x y z inX && seamB s l c x y (z + 1) inX) := by
  obtain ⟨a, ha⟩ := Int.eq_ofNat_of_zero_le h1
  obtain ⟨b, hb⟩ := Int.eq_ofNat_of_zero_le h2
  have la : a < (abv s).length := by
    have := num_lt_full ok x y z
    rw [abv_len]
    omega
  have lb : b < (abv s).length := by
    have := num_lt_full ok (if inX then x + 1 else x) (if inX then y else y + 1) z
    rw [abv_len]
    omega
  have ga : (abv s).getD a 0 = s.num x y (z + 1) := by
    have := abv_of ok ha
    rw [List.getD_eq_getElem?_getD, List.getElem?_eq_getElem la] at this ⊢
    exact this
  have gb : (abv s).getD b 0 = s.num (if inX then x + 1 else x) (if inX then y else y + 1) (z + 1) := by
    have := abv_of ok hb
    rw [List.getD_eq_getElem?_getD, List.getElem?_eq_getElem lb] at this ⊢
    exact this
  have hq : ((abv s).getD (pairAt s x y z inX).1.toNat 0, (abv s).getD (pairAt s x y z inX).2.toNat 0) = pairAt s x y (z + 1) inX := by
    show ((abv s).getD (s.num x y z).toNat 0, (abv s).getD (s.num (if inX then x + 1 else x) (if inX then y else y + 1) z).toNat 0) = _
    rw [ha, hb, Int.toNat_natCast, Int.toNat_natCast, ga, gb]
    rfl
  unfold weakP
  have hov := over_iff (ab := abv s) (es := eds s) (p := pairAt s x y z inX)
  rw [hq, pair_mem ok] at hov
  rw [seamB_eq ok h hall x y z inX, seamB_eq ok h hall x y (z + 1) inX]
  by_cases ho : 0 ≤ overAt (abv s) (eds s) (pairAt s x y z inX)
  · have hlt := over_lt ho
    rw [hq] at hlt
    have hg : (eds s).getD (overAt (abv s) (eds s) (pairAt s x y z inX)).toNat (0, 0) = pairAt s x y (z + 1) inX := by
      rw [List.getD_eq_getElem?_getD, hlt]
      rfl
    obtain ⟨o1, o2⟩ := hov.1 ho
    rw [hg]
    simp only [ho, h1, h2, o1, o2, decide_true, Bool.true_and]
    rfl
  · have hn : ¬ (0 ≤ s.num x y (z + 1) ∧ 0 ≤ s.num (if inX then x + 1 else x) (if inX then y else y + 1) (z + 1)) := fun e => ho (hov.2 e)
    rw [decide_eq_false ho, Bool.false_and]
    symm
    rw [Bool.and_eq_false_iff]
    right
    by_cases o1 : 0 ≤ s.num x y (z + 1)
    · have o2 : ¬ 0 ≤ s.num (if inX then x + 1 else x) (if inX then y else y + 1) (z + 1) := fun e => hn ⟨o1, e⟩
      simp only [o2, decide_false, Bool.false_and, Bool.and_false]
    · simp only [o1, decide_false, Bool.false_and]
theorem weak_to {s : Shape} {l : List Plate} {c : List Laid} {out : List Nat} {all : Nat} (ok : s.Ok) (h : SetIs s l c c.length out all) (hall : all = 2 ^ fullN s.cells - 1) : ∀ {k : Nat}, k ≤ s.cells.length →
    (edgesS s k).countP (weakP s out) = weakTo s l c k
  | 0, _ => rfl
  | k + 1, hk => by
    have ih := weak_to ok h hall (show k ≤ s.cells.length by omega)
    have hn := num_place ok (show k < s.cells.length by omega)
    unfold edgesS weakTo weakAt
    have dead : ∀ (z : Int) (inX : Bool), s.num (s.px k) (s.py k) (s.pz k) < 0 → seamB s l c (s.px k) (s.py k) (s.pz k) inX = false := fun z inX hh => by
      rw [seamB_eq ok h hall, decide_eq_false (by omega), Bool.false_and]
    split
    · rename_i h0
      rw [← hn] at h0
      rw [ih, dead 0 true h0, dead 0 false h0]
      simp
    · rename_i h0
      rw [← hn] at h0
      rw [List.countP_append, ih]
      congr 1
      unfold edgesAt
      rw [List.countP_append, ← hn]
      have side : ∀ inX : Bool, (if 0 ≤ s.num (if inX then s.px k + 1 else s.px k) (if inX then s.py k else s.py k + 1) (s.pz k) then [pairAt s (s.px k) (s.py k) (s.pz k) inX] else []).countP (weakP s out) =
          if seamB s l c (s.px k) (s.py k) (s.pz k) inX = true ∧ seamB s l c (s.px k) (s.py k) (s.pz k + 1) inX = true then 1 else 0 := fun inX => by
        by_cases h2 : 0 ≤ s.num (if inX then s.px k + 1 else s.px k) (if inX then s.py k else s.py k + 1) (s.pz k)
        · have := weakP_eq (l := l) (c := c) ok h hall (x := s.px k) (y := s.py k) (z := s.pz k) (inX := inX) (by omega) h2
          rw [if_pos h2, List.countP_singleton, this]
          simp only [Bool.and_eq_true]
        · rw [if_neg h2]
          have : seamB s l c (s.px k) (s.py k) (s.pz k) inX = false := by
            rw [seamB_eq ok h hall, decide_eq_false h2, Bool.false_and, Bool.and_false]
          rw [this]
          simp
      have s1 := side true
      have s2 := side false
      exact congr (congrArg _ s1) s2
theorem weak_eq {s : Shape} {l : List Plate} {c : List Laid} {out : List Nat} {all : Nat} (ok : s.Ok) (h : SetIs s l c c.length out all) (hall : all = 2 ^ fullN s.cells - 1) : weakN s out = weakTo s l c s.cells.length :=
  weak_to ok h hall (Nat.le_refl _)
end Go.Proofs.YtaaeapjnjjbglaaDoor

namespace Go.Proofs.YtaaeapjnjjbglaaDoor
open Go.RowKit

theorem by_is7 {A : Option Addr} {cap : Nat} {l : List Plate} {CA : Option Addr} {ccap : Nat} {c : List Laid} {x y z r : Int} (h : byI l c x y z = r) (okl : platesB l = true) (hc : ∀ (k : Nat) (a : Laid), c[k]? = some a → a.Ok l) (hlen : c.length ≤ 1000) (w : World) (hl : Plates w A cap l) (hcs : Laids w CA ccap c) :
    Calls Tryd.prog 103 #[.slice A l.length cap, .slice CA c.length ccap, .int .i64 x, .int .i64 y, .int .i64 z] w fun e w' => e = .returned (.int .i64 r) ∧ Ext w w' := by
  rw [← h]
  exact by_c A cap l CA ccap c x y z okl hc hlen w hl hcs
theorem rAt_is {s : Shape} {A : Option Addr} {cap : Nat} {x y z a : Int} (h : s.colorAt x y z = a) (ok : s.Ok) (w : World) (hb : Bytes w A cap s.cells) :
    Calls Tryd.prog 24 #[.agg #[.int .i64 s.W, .int .i64 s.D, .int .i64 s.H, .slice A s.cells.length cap], .int .i64 x, .int .i64 y, .int .i64 z] w fun e w' => e = .returned (.int .u8 a) ∧ Ext w w' := by
  rw [← h]
  exact rAt_c s A cap x y z ok w hb

set_option maxHeartbeats 2000000 in
theorem seam_c (s : Shape) (A : Option Addr) (cap : Nat) (l : List Plate) (PA : Option Addr) (pcap : Nat) (c : List Laid) (CA : Option Addr) (ccap : Nat) (x y z : Int) (inX : Bool) (ok : s.Ok) (okl : platesB l = true) (hc : ∀ (k : Nat) (a : Laid), c[k]? = some a → a.Ok l)
    (hlen : c.length ≤ 1000) (hx : 0 ≤ x ∧ x ≤ 1000) (hy : 0 ≤ y ∧ y ≤ 1000) (w : World) (hs : Bytes w A cap s.cells) (hl : Plates w PA pcap l) (hcs : Laids w CA ccap c) :
    Calls Tryd.prog 105 #[.agg #[.int .i64 s.W, .int .i64 s.D, .int .i64 s.H, .slice A s.cells.length cap], .slice PA l.length pcap, .slice CA c.length ccap, .int .i64 x, .int .i64 y, .int .i64 z, .bool inX] w fun e w' =>
      e = .returned (.bool (seamB s l c x y z inX)) ∧ Ext w w' := by
  obtain ⟨W1, hW1, E1, B1, hz1⟩ := box_ w #[.int .i64 s.W, .int .i64 s.D, .int .i64 s.H, .slice A s.cells.length cap] 24
  clear hz1
  have b1 := B1.cell
  obtain ⟨x1, x2⟩ := hx
  obtain ⟨y1, y2⟩ := hy
  obtain ⟨a, ha⟩ : ∃ a, s.colorAt x y z = a := ⟨_, rfl⟩
  obtain ⟨p, hp⟩ : ∃ p, byI l c x y z = p := ⟨_, rfl⟩
  have Ha := Lib.hid ha
  have Hp := Lib.hid hp
  clear ha hp
  cases inX
  · obtain ⟨b, hb⟩ : ∃ b, s.colorAt x (y + 1) z = b := ⟨_, rfl⟩
    obtain ⟨q, hq⟩ : ∃ q, byI l c x (y + 1) z = q := ⟨_, rfl⟩
    have Hv : Hid (seamB s l c x y z false = (decide (a ≠ 0) && (decide (b ≠ 0) && decide (p ≠ q)))) := Lib.hid (by
      unfold seamB
      simp only [reduceIte, Bool.false_eq_true]
      rw [Ha.out, Hp.out, hb, hq])
    have Hb := Lib.hid hb
    have Hq := Lib.hid hq
    clear hb hq
    by_cases ha : a = 0
    · have Hr : Hid (seamB s l c x y z false = false) := Lib.hid (by rw [Hv.out, decide_eq_false (by simpa using ha)]; rfl)
      subst ha
      go_enter Tryd.func105, Tryd.ntmps105
      go_wp2_with fail
      refine (rAt_is Ha.out ok _ (hs.ext E1)).mono ?_
      rintro e W2 ⟨rfl, E2⟩
      go_wp2_with fail
      go_ret
      exact ⟨by rw [Hr.out] <;> rfl, E1.trans E2⟩
    · have a1 : (a != 0) = true := by simpa using ha
      have a2 : (a == 0) = false := by simpa using ha
      by_cases hb : b = 0
      · have Hr : Hid (seamB s l c x y z false = false) := Lib.hid (by rw [Hv.out, decide_eq_false (show ¬ b ≠ 0 by simpa using hb)]; simp)
        subst hb
        clear ha
        go_enter Tryd.func105, Tryd.ntmps105
        go_wp2_with fail
        refine (rAt_is Ha.out ok _ (hs.ext E1)).mono ?_
        rintro e W2 ⟨rfl, E2⟩
        obtain ⟨hc2, hf2, hz2⟩ := ext_facts E2
        go_wp2_with fail
        refine (rAt_is Hb.out ok _ (hs.ext (E1.trans E2))).mono ?_
        rintro e W3 ⟨rfl, E3⟩
        go_wp2_with fail
        go_ret
        exact ⟨by rw [Hr.out] <;> rfl, (E1.trans E2).trans E3⟩
      · have nb1 : (b != 0) = true := by simpa using hb
        have nb2 : (b == 0) = false := by simpa using hb
        have Hr : Hid (seamB s l c x y z false = (p != q)) := Lib.hid (by rw [Hv.out, decide_eq_true ha, decide_eq_true hb, Bool.true_and, Bool.true_and]; by_cases h : p = q <;> simp [h])
        clear ha hb
        go_enter Tryd.func105, Tryd.ntmps105
        go_wp2_with fail
        refine (rAt_is Ha.out ok _ (hs.ext E1)).mono ?_
        rintro e W2 ⟨rfl, E2⟩
        obtain ⟨hc2, hf2, hz2⟩ := ext_facts E2
        go_wp2_with fail
        refine (rAt_is Hb.out ok _ (hs.ext (E1.trans E2))).mono ?_
        rintro e W3 ⟨rfl, E3⟩
        go_wp2_with fail
        refine (by_is7 Hp.out okl hc hlen _ (hl.ext ((E1.trans E2).trans E3)) (hcs.ext ((E1.trans E2).trans E3))).mono ?_
        rintro e W4 ⟨rfl, E4⟩
        go_wp2_with fail
        refine (by_is7 Hq.out okl hc hlen _ (hl.ext (((E1.trans E2).trans E3).trans E4)) (hcs.ext (((E1.trans E2).trans E3).trans E4))).mono ?_
        rintro e W5 ⟨rfl, E5⟩
        go_wp2_with fail
        go_ret
        exact ⟨by rw [Hr.out] <;> rfl, (((E1.trans E2).trans E3).trans E4).trans E5⟩
  · obtain ⟨b, hb⟩ : ∃ b, s.colorAt (x + 1) y z = b := ⟨_, rfl⟩
    obtain ⟨q, hq⟩ : ∃ q, byI l c (x + 1) y z = q := ⟨_, rfl⟩
    have Hv : Hid (seamB s l c x y z true = (decide (a ≠ 0) && (decide (b ≠ 0) && decide (p ≠ q)))) := Lib.hid (by
      unfold seamB
      simp only [reduceIte]
      rw [Ha.out, Hp.out, hb, hq])
    have Hb := Lib.hid hb
    have Hq := Lib.hid hq
    clear hb hq
    by_cases ha : a = 0
    · have Hr : Hid (seamB s l c x y z true = false) := Lib.hid (by rw [Hv.out, decide_eq_false (by simpa using ha)]; rfl)
      subst ha
      go_enter Tryd.func105, Tryd.ntmps105
      go_wp2_with fail
      refine (rAt_is Ha.out ok _ (hs.ext E1)).mono ?_
      rintro e W2 ⟨rfl, E2⟩
      go_wp2_with fail
      go_ret
      exact ⟨by rw [Hr.out] <;> rfl, E1.trans E2⟩
    · have a1 : (a != 0) = true := by simpa using ha
      have a2 : (a == 0) = false := by simpa using ha
      by_cases hb : b = 0
      · have Hr : Hid (seamB s l c x y z true = false) := Lib.hid (by rw [Hv.out, decide_eq_false (show ¬ b ≠ 0 by simpa using hb)]; simp)
        subst hb
        clear ha
        go_enter Tryd.func105, Tryd.ntmps105
        go_wp2_with fail
        refine (rAt_is Ha.out ok _ (hs.ext E1)).mono ?_
        rintro e W2 ⟨rfl, E2⟩
        obtain ⟨hc2, hf2, hz2⟩ := ext_facts E2
        go_wp2_with fail
        refine (rAt_is Hb.out ok _ (hs.ext (E1.trans E2))).mono ?_
        rintro e W3 ⟨rfl, E3⟩
        go_wp2_with fail
        go_ret
        exact ⟨by rw [Hr.out] <;> rfl, (E1.trans E2).trans E3⟩
      · have nb1 : (b != 0) = true := by simpa using hb
        have nb2 : (b == 0) = false := by simpa using hb
        have Hr : Hid (seamB s l c x y z true = (p != q)) := Lib.hid (by rw [Hv.out, decide_eq_true ha, decide_eq_true hb, Bool.true_and, Bool.true_and]; by_cases h : p = q <;> simp [h])
        clear ha hb
        go_enter Tryd.func105, Tryd.ntmps105
        go_wp2_with fail
        refine (rAt_is Ha.out ok _ (hs.ext E1)).mono ?_
        rintro e W2 ⟨rfl, E2⟩
        obtain ⟨hc2, hf2, hz2⟩ := ext_facts E2
        go_wp2_with fail
        refine (rAt_is Hb.out ok _ (hs.ext (E1.trans E2))).mono ?_
        rintro e W3 ⟨rfl, E3⟩
        go_wp2_with fail
        refine (by_is7 Hp.out okl hc hlen _ (hl.ext ((E1.trans E2).trans E3)) (hcs.ext ((E1.trans E2).trans E3))).mono ?_
        rintro e W4 ⟨rfl, E4⟩
        go_wp2_with fail
        refine (by_is7 Hq.out okl hc hlen _ (hl.ext (((E1.trans E2).trans E3).trans E4)) (hcs.ext (((E1.trans E2).trans E3).trans E4))).mono ?_
        rintro e W5 ⟨rfl, E5⟩
        go_wp2_with fail
        go_ret
        exact ⟨by rw [Hr.out] <;> rfl, (((E1.trans E2).trans E3).trans E4).trans E5⟩
end Go.Proofs.YtaaeapjnjjbglaaDoor

namespace Go.Proofs.YtaaeapjnjjbglaaDoor
open Go.RowKit

theorem comp_ok {s : Shape} {l : List Plate} {c : List Laid} (h : compErr s l c = 0) : s.Ok ∧ platesB l = true ∧ compB s l c = true ∧ ∀ (k : Nat) (a : Laid), c[k]? = some a → liesB s l a = true ∧ a.Ok l := by
  have h3 : s.valid = true ∧ platesB l = true ∧ compB s l c = true := by
    unfold compErr at h
    by_cases h1 : s.valid = true
    · rw [if_pos h1] at h
      by_cases h2 : platesB l = true
      · rw [if_pos h2] at h
        by_cases h3 : compB s l c = true
        · exact ⟨h1, h2, h3⟩
        · rw [if_neg h3] at h; omega
      · rw [if_neg h2] at h; omega
    · rw [if_neg h1] at h; omega
  refine ⟨Shape.ok_of h3.1, h3.2.1, h3.2.2, fun k a ha => ?_⟩
  have hlt := (List.getElem?_eq_some_iff.1 ha).1
  have hli : liesB s l a = true := by
    by_cases hh : liesB s l a = true
    · exact hh
    · have : compB s l c = false := comp_bad hlt (by unfold compAt; rw [laidAt_eq ha, Bool.eq_false_iff.2 hh]; rfl)
      rw [h3.2.2] at this
      cases this
  exact ⟨hli, laid_ok (Shape.ok_of h3.1) hli⟩

theorem seam_is {s : Shape} {A : Option Addr} {cap : Nat} {l : List Plate} {PA : Option Addr} {pcap : Nat} {c : List Laid} {CA : Option Addr} {ccap : Nat} {x y z : Int} {inX b : Bool} (h : seamB s l c x y z inX = b) (ok : s.Ok) (okl : platesB l = true) (hc : ∀ (k : Nat) (a : Laid), c[k]? = some a → a.Ok l)
    (hlen : c.length ≤ 1000) (hx : 0 ≤ x ∧ x ≤ 1000) (hy : 0 ≤ y ∧ y ≤ 1000) (w : World) (hs : Bytes w A cap s.cells) (hl : Plates w PA pcap l) (hcs : Laids w CA ccap c) :
    Calls Tryd.prog 105 #[.agg #[.int .i64 s.W, .int .i64 s.D, .int .i64 s.H, .slice A s.cells.length cap], .slice PA l.length pcap, .slice CA c.length ccap, .int .i64 x, .int .i64 y, .int .i64 z, .bool inX] w fun e w' => e = .returned (.bool b) ∧ Ext w w' := by
  rw [← h]
  exact seam_c s A cap l PA pcap c CA ccap x y z inX ok okl hc hlen hx hy w hs hl hcs
theorem weakTo_le (s : Shape) (l : List Plate) (c : List Laid) : ∀ k, weakTo s l c k ≤ 2 * k
  | 0 => by simp [weakTo]
  | k + 1 => by
    have := weakTo_le s l c k
    have h : weakAt s l c k ≤ 2 := by unfold weakAt; split <;> split <;> omega
    unfold weakTo
    omega

set_option maxRecDepth 100000 in
set_option maxHeartbeats 4000000 in
theorem weakness_c (s : Shape) (A : Option Addr) (cap : Nat) (l : List Plate) (PA : Option Addr) (pcap : Nat) (c : List Laid) (CA : Option Addr) (ccap : Nat) (ok : s.Ok) (okl : platesB l = true) (hc : ∀ (k : Nat) (a : Laid), c[k]? = some a → a.Ok l) (hlen : c.length ≤ 1000) (w : World)
    (hs : Bytes w A cap s.cells) (hl : Plates w PA pcap l) (hcs : Laids w CA ccap c) :
    Calls Tryd.prog 76 #[.agg #[.int .i64 s.W, .int .i64 s.D, .int .i64 s.H, .slice A s.cells.length cap], .slice PA l.length pcap, .slice CA c.length ccap] w fun e w' =>
      e = .returned (.int .i64 (weakTo s l c s.cells.length)) ∧ Ext w w' := by
  obtain ⟨W1, hW1, E1, B1, hz1⟩ := box_ w #[.int .i64 s.W, .int .i64 s.D, .int .i64 s.H, .slice A s.cells.length cap] 24
  have b1 := B1.cell
  have hl256 := s.len_le ok
  obtain ⟨w1, w2⟩ := ok.w
  obtain ⟨d1, d2⟩ := ok.d
  obtain ⟨h1, h2⟩ := ok.h
  have Hc := Lib.hid hc
  clear hc
  go_enter Tryd.func76, Tryd.ntmps76
  go_wp2_with fail
  clear hz1 hW1 b1
  go_loopw [7, 8] (fun v i wr => ∃ k m : Nat, k ≤ s.cells.length ∧ i = .int .i64 k ∧ v = .int .i64 m ∧ weakTo s l c k = m ∧ Ext W1 wr) (fun _ i _ => s.cells.length - (intOf i).toNat)
  case atStart => exact ⟨0, 0, by omega, rfl, rfl, rfl, Ext.refl _⟩
  case round =>
    obtain ⟨k, m, hk, rfl, rfl, hm, E⟩ := hrel
    have hm2 := weakTo_le s l c k
    rw [hm] at hm2
    have Hm := Lib.hid hm
    clear hm
    have C1 := B1.ext E
    have b1 := C1.cell
    have hsr := hs.ext (E1.trans E)
    have hlr := hl.ext (E1.trans E)
    have hcr := hcs.ext (E1.trans E)
    by_cases hlt : k < s.cells.length
    · have b3 := Int.emod_nonneg (k : Int) (show s.W ≠ 0 by omega)
      have b4 := Int.emod_lt_of_pos (k : Int) (show 0 < s.W by omega)
      have c0 : 0 ≤ (k : Int) / s.W := Int.ediv_nonneg (by omega) (by omega)
      have b5 := Int.emod_nonneg ((k : Int) / s.W) (show s.D ≠ 0 by omega)
      have b6 := Int.emod_lt_of_pos ((k : Int) / s.W) (show 0 < s.D by omega)
      have c1 : 0 ≤ (k : Int) / s.W / s.D := Int.ediv_nonneg c0 (by omega)
      have c2 : (k : Int) / s.W ≤ k := Int.ediv_le_self _ (by omega)
      have c3 : (k : Int) / s.W / s.D ≤ (k : Int) / s.W := Int.ediv_le_self _ c0
      have e1 : (k : Int).tmod s.W = (k : Int) % s.W := Int.tmod_eq_emod_of_nonneg (by omega)
      have e2 : (k : Int).tdiv s.W = (k : Int) / s.W := Int.tdiv_eq_ediv_of_nonneg (by omega)
      have e3 : ((k : Int) / s.W).tmod s.D = (k : Int) / s.W % s.D := Int.tmod_eq_emod_of_nonneg c0
      have e4 : ((k : Int) / s.W).tdiv s.D = (k : Int) / s.W / s.D := Int.tdiv_eq_ediv_of_nonneg c0
      have f1 : IntKind.i64.wrap ((k : Int) % s.W) = (k : Int) % s.W := IntWalk.i64_in _ (by omega)
      have f2 : IntKind.i64.wrap ((k : Int) / s.W) = (k : Int) / s.W := IntWalk.i64_in _ (by omega)
      have f3 : IntKind.i64.wrap ((k : Int) / s.W % s.D) = (k : Int) / s.W % s.D := IntWalk.i64_in _ (by omega)
      have f4 : IntKind.i64.wrap ((k : Int) / s.W / s.D) = (k : Int) / s.W / s.D := IntWalk.i64_in _ (by omega)
      have f5 : IntKind.i64.wrap ((k : Int) / s.W / s.D + 1) = (k : Int) / s.W / s.D + 1 := IntWalk.i64_in _ (by omega)
      have n1 : (s.W == 0) = false := by simp; omega
      have n2 : (s.D == 0) = false := by simp; omega
      have Hstep : Hid (weakTo s l c (k + 1) = m + weakAt s l c k) := Lib.hid (by rw [weakTo, Hm.out])
      obtain ⟨t1, h1⟩ : ∃ t, seamB s l c ((k : Int) % s.W) ((k : Int) / s.W % s.D) ((k : Int) / s.W / s.D) true = t := ⟨_, rfl⟩
      obtain ⟨t2, h2⟩ : ∃ t, seamB s l c ((k : Int) % s.W) ((k : Int) / s.W % s.D) ((k : Int) / s.W / s.D + 1) true = t := ⟨_, rfl⟩
      obtain ⟨t3, h3⟩ : ∃ t, seamB s l c ((k : Int) % s.W) ((k : Int) / s.W % s.D) ((k : Int) / s.W / s.D) false = t := ⟨_, rfl⟩
      obtain ⟨t4, h4⟩ : ∃ t, seamB s l c ((k : Int) % s.W) ((k : Int) / s.W % s.D) ((k : Int) / s.W / s.D + 1) false = t := ⟨_, rfl⟩
      have Hat : Hid (weakAt s l c k = (if t1 = true ∧ t2 = true then 1 else 0) + (if t3 = true ∧ t4 = true then 1 else 0)) := Lib.hid (by
        unfold weakAt Shape.px Shape.py Shape.pz
        rw [h1, h2, h3, h4])
      have H1 := Lib.hid h1
      have H2 := Lib.hid h2
      have H3 := Lib.hid h3
      have H4 := Lib.hid h4
      clear h1 h2 h3 h4
      go_wp2_with fail
      refine wp_region_grow (by kernel_rfl) (by kernel_rfl) ?_
      repeat (go_big_quiet_step (fail))
      refine wpQuiet_nil ?_
      intro W3 hW3
      have E3 : Ext wr W3 := by
        obtain ⟨x, rfl⟩ := hW3
        exact (Ext.refl _).grow x
      clear hW3
      obtain ⟨hcW3, hfW3, hzW3⟩ := ext_facts E3
      clear hcW3 hfW3 hzW3 b1
      have b1 := (C1.ext E3).cell
      cases t1
      · go_wp2_with fail
        refine (seam_is H1.out ok okl Hc.out hlen (by omega) (by omega) _ (hsr.ext E3) (hlr.ext E3) (hcr.ext E3)).mono ?_
        rintro e V1 ⟨rfl, F1⟩
        have F := E3.trans F1
        clear b1
        have b1 := (C1.ext F).cell
        have hs3 := hsr.ext F
        have hl3 := hlr.ext F
        have hc3 := hcr.ext F
        cases t3
        · go_wp2_with fail
          refine (seam_is H3.out ok okl Hc.out hlen (by omega) (by omega) _ hs3 hl3 hc3).mono ?_
          rintro e V3 ⟨rfl, F3⟩
          have G := E.trans (F.trans F3)
          go_wp2_with fail
          go_roundw
          case rel => exact ⟨k + 1, m + 0, by omega, by go_num, by go_num, by simp [Hstep.out, Hat.out], G⟩
          case measure => simp only [intOf]; omega
        · cases t4
          · go_wp2_with fail
            refine (seam_is H3.out ok okl Hc.out hlen (by omega) (by omega) _ hs3 hl3 hc3).mono ?_
            rintro e V3 ⟨rfl, F3⟩
            clear b1
            have b1 := ((C1.ext F).ext F3).cell
            go_wp2_with fail
            refine (seam_is H4.out ok okl Hc.out hlen (by omega) (by omega) _ (hs3.ext F3) (hl3.ext F3) (hc3.ext F3)).mono ?_
            rintro e V4 ⟨rfl, F4⟩
            have G := E.trans ((F.trans F3).trans F4)
            go_wp2_with fail
            go_roundw
            case rel => exact ⟨k + 1, m + 0, by omega, by go_num, by go_num, by simp [Hstep.out, Hat.out], G⟩
            case measure => simp only [intOf]; omega
          · go_wp2_with fail
            refine (seam_is H3.out ok okl Hc.out hlen (by omega) (by omega) _ hs3 hl3 hc3).mono ?_
            rintro e V3 ⟨rfl, F3⟩
            clear b1
            have b1 := ((C1.ext F).ext F3).cell
            go_wp2_with fail
            refine (seam_is H4.out ok okl Hc.out hlen (by omega) (by omega) _ (hs3.ext F3) (hl3.ext F3) (hc3.ext F3)).mono ?_
            rintro e V4 ⟨rfl, F4⟩
            have G := E.trans ((F.trans F3).trans F4)
            go_wp2_with fail
            go_roundw
            case rel => exact ⟨k + 1, m + 1, by omega, by go_num, by go_num, by simp [Hstep.out, Hat.out], G⟩
            case measure => simp only [intOf]; omega
      · cases t2
        · go_wp2_with fail
          refine (seam_is H1.out ok okl Hc.out hlen (by omega) (by omega) _ (hsr.ext E3) (hlr.ext E3) (hcr.ext E3)).mono ?_
          rintro e V1 ⟨rfl, F1⟩
          clear b1
          have b1 := ((C1.ext E3).ext F1).cell
          go_wp2_with fail
          refine (seam_is H2.out ok okl Hc.out hlen (by omega) (by omega) _ ((hsr.ext E3).ext F1) ((hlr.ext E3).ext F1) ((hcr.ext E3).ext F1)).mono ?_
          rintro e V2 ⟨rfl, F2⟩
          have F := (E3.trans F1).trans F2
          clear b1
          have b1 := (C1.ext F).cell
          have hs3 := hsr.ext F
          have hl3 := hlr.ext F
          have hc3 := hcr.ext F
          cases t3
          · go_wp2_with fail
            refine (seam_is H3.out ok okl Hc.out hlen (by omega) (by omega) _ hs3 hl3 hc3).mono ?_
            rintro e V3 ⟨rfl, F3⟩
            have G := E.trans (F.trans F3)
            go_wp2_with fail
            go_roundw
            case rel => exact ⟨k + 1, m + 0, by omega, by go_num, by go_num, by simp [Hstep.out, Hat.out], G⟩
            case measure => simp only [intOf]; omega
          · cases t4
            · go_wp2_with fail
              refine (seam_is H3.out ok okl Hc.out hlen (by omega) (by omega) _ hs3 hl3 hc3).mono ?_
              rintro e V3 ⟨rfl, F3⟩
              clear b1
              have b1 := ((C1.ext F).ext F3).cell
              go_wp2_with fail
              refine (seam_is H4.out ok okl Hc.out hlen (by omega) (by omega) _ (hs3.ext F3) (hl3.ext F3) (hc3.ext F3)).mono ?_
              rintro e V4 ⟨rfl, F4⟩
              have G := E.trans ((F.trans F3).trans F4)
              go_wp2_with fail
              go_roundw
              case rel => exact ⟨k + 1, m + 0, by omega, by go_num, by go_num, by simp [Hstep.out, Hat.out], G⟩
              case measure => simp only [intOf]; omega
            · go_wp2_with fail
              refine (seam_is H3.out ok okl Hc.out hlen (by omega) (by omega) _ hs3 hl3 hc3).mono ?_
              rintro e V3 ⟨rfl, F3⟩
              clear b1
              have b1 := ((C1.ext F).ext F3).cell
              go_wp2_with fail
              refine (seam_is H4.out ok okl Hc.out hlen (by omega) (by omega) _ (hs3.ext F3) (hl3.ext F3) (hc3.ext F3)).mono ?_
              rintro e V4 ⟨rfl, F4⟩
              have G := E.trans ((F.trans F3).trans F4)
              go_wp2_with fail
              go_roundw
              case rel => exact ⟨k + 1, m + 1, by omega, by go_num, by go_num, by simp [Hstep.out, Hat.out], G⟩
              case measure => simp only [intOf]; omega
        · go_wp2_with fail
          refine (seam_is H1.out ok okl Hc.out hlen (by omega) (by omega) _ (hsr.ext E3) (hlr.ext E3) (hcr.ext E3)).mono ?_
          rintro e V1 ⟨rfl, F1⟩
          clear b1
          have b1 := ((C1.ext E3).ext F1).cell
          go_wp2_with fail
          refine (seam_is H2.out ok okl Hc.out hlen (by omega) (by omega) _ ((hsr.ext E3).ext F1) ((hlr.ext E3).ext F1) ((hcr.ext E3).ext F1)).mono ?_
          rintro e V2 ⟨rfl, F2⟩
          have F := (E3.trans F1).trans F2
          clear b1
          have b1 := (C1.ext F).cell
          have hs3 := hsr.ext F
          have hl3 := hlr.ext F
          have hc3 := hcr.ext F
          cases t3
          · go_wp2_with fail
            refine (seam_is H3.out ok okl Hc.out hlen (by omega) (by omega) _ hs3 hl3 hc3).mono ?_
            rintro e V3 ⟨rfl, F3⟩
            have G := E.trans (F.trans F3)
            go_wp2_with fail
            go_roundw
            case rel => exact ⟨k + 1, m + 1, by omega, by go_num, by go_num, by simp [Hstep.out, Hat.out], G⟩
            case measure => simp only [intOf]; omega
          · cases t4
            · go_wp2_with fail
              refine (seam_is H3.out ok okl Hc.out hlen (by omega) (by omega) _ hs3 hl3 hc3).mono ?_
              rintro e V3 ⟨rfl, F3⟩
              clear b1
              have b1 := ((C1.ext F).ext F3).cell
              go_wp2_with fail
              refine (seam_is H4.out ok okl Hc.out hlen (by omega) (by omega) _ (hs3.ext F3) (hl3.ext F3) (hc3.ext F3)).mono ?_
              rintro e V4 ⟨rfl, F4⟩
              have G := E.trans ((F.trans F3).trans F4)
              go_wp2_with fail
              go_roundw
              case rel => exact ⟨k + 1, m + 1, by omega, by go_num, by go_num, by simp [Hstep.out, Hat.out], G⟩
              case measure => simp only [intOf]; omega
            · go_wp2_with fail
              refine (seam_is H3.out ok okl Hc.out hlen (by omega) (by omega) _ hs3 hl3 hc3).mono ?_
              rintro e V3 ⟨rfl, F3⟩
              clear b1
              have b1 := ((C1.ext F).ext F3).cell
              go_wp2_with fail
              refine (seam_is H4.out ok okl Hc.out hlen (by omega) (by omega) _ (hs3.ext F3) (hl3.ext F3) (hc3.ext F3)).mono ?_
              rintro e V4 ⟨rfl, F4⟩
              have G := E.trans ((F.trans F3).trans F4)
              go_wp2_with fail
              go_roundw
              case rel => exact ⟨k + 1, m + 2, by omega, by go_num, by go_num, by simp [Hstep.out, Hat.out], G⟩
              case measure => simp only [intOf]; omega
    · obtain rfl : k = s.cells.length := by omega
      go_wp2_with fail
      go_ret
      exact ⟨by rw [Hm.out] <;> rfl, E1.trans E⟩
end Go.Proofs.YtaaeapjnjjbglaaDoor

namespace Go.Proofs.YtaaeapjnjjbglaaDoor
open Go.RowKit

def ClosedTo (s : Shape) (l : List Plate) (c : List Laid) (ins : List Bool) (i k : Nat) : Prop :=
  ∀ i' j, j < c.length → (i' < i ∨ i' = i ∧ j < k) → ins[i']? = some true → ins[j]? = some false → ¬ Tl s l c i' j
def PassI (s : Shape) (l : List Plate) (c : List Laid) (n0 : Nat) (ins : List Bool) (n : Nat) (b : Bool) (i k : Nat) : Prop :=
  InT s l c ins n ∧ n0 ≤ n ∧ (b = true → n0 < n) ∧ (b = false → ClosedTo s l c ins i k)
theorem PassI.start {s : Shape} {l : List Plate} {c : List Laid} {ins : List Bool} {n : Nat} (h : InT s l c ins n) : PassI s l c n ins n false 0 0 :=
  ⟨h, Nat.le_refl _, (fun h => by cases h), fun _ i' j _ hij => by omega⟩
theorem PassI.same {s : Shape} {l : List Plate} {c : List Laid} {ins : List Bool} {n0 n i k : Nat} {b : Bool} (h : PassI s l c n0 ins n b i k) (hno : ins[i]? = some true → ins[k]? = some false → ¬ Tl s l c i k) : PassI s l c n0 ins n b i (k + 1) := by
  refine ⟨h.1, h.2.1, h.2.2.1, fun hb i' j hj hij h1 h2 => ?_⟩
  by_cases e : i' = i ∧ j = k
  · obtain ⟨rfl, rfl⟩ := e
    exact hno h1 h2
  · exact h.2.2.2 hb i' j hj (by omega) h1 h2
theorem PassI.more {s : Shape} {l : List Plate} {c : List Laid} {ins : List Bool} {n0 n i k : Nat} {b : Bool} (h : PassI s l c n0 ins n b i k) (h1 : ins[i]? = some true) (h2 : ins[k]? = some false) (ht : Tl s l c i k) : PassI s l c n0 (ins.set k true) (n + 1) true i (k + 1) :=
  ⟨h.1.step h1 h2 ht, (by have := h.2.1; omega), (fun _ => by have := h.2.1; omega), fun h => by cases h⟩
theorem PassI.next {s : Shape} {l : List Plate} {c : List Laid} {ins : List Bool} {n0 n i : Nat} {b : Bool} (h : PassI s l c n0 ins n b i c.length) : PassI s l c n0 ins n b (i + 1) 0 := by
  refine ⟨h.1, h.2.1, h.2.2.1, fun hb i' j hj hij h1 h2 => h.2.2.2 hb i' j hj (by omega) h1 h2⟩
theorem PassI.done {s : Shape} {l : List Plate} {c : List Laid} {ins : List Bool} {n : Nat} (h : InT s l c ins n) (hc : ClosedTo s l c ins c.length 0) : hangB s l c = decide (n = c.length) :=
  h.done fun i j hi hj h1 h2 => hc i j hj (Or.inl hi) h1 h2
def flag : Value → Nat
  | .bool true => 1
  | _ => 0

theorem touch_is {s : Shape} {A : Option Addr} {cap : Nat} {l : List Plate} {PA : Option Addr} {pcap : Nat} {a b : Laid} {t : Bool} (h : touchB s l a b = t) (ok : s.Ok) (okl : platesB l = true) (ha : a.Ok l) (hb : b.Ok l) (w : World) (hl : Plates w PA pcap l) :
    Calls Tryd.prog 104 #[.agg #[.int .i64 s.W, .int .i64 s.D, .int .i64 s.H, .slice A s.cells.length cap], .slice PA l.length pcap, .agg #[.int .i64 a.plate, .int .i64 a.x, .int .i64 a.y, .int .i64 a.z, .bool a.turned],
      .agg #[.int .i64 b.plate, .int .i64 b.x, .int .i64 b.y, .int .i64 b.z, .bool b.turned]] w fun e w' => e = .returned (.bool t) ∧ Ext w w' := by
  rw [← h]
  exact touch_c s A cap l PA pcap a b ok okl ha hb w hl

set_option maxRecDepth 100000 in
set_option maxHeartbeats 8000000 in
theorem together_c (s : Shape) (A : Option Addr) (cap : Nat) (l : List Plate) (PA : Option Addr) (pcap : Nat) (c : List Laid) (CA : Option Addr) (ccap : Nat) (ok : s.Ok) (okl : platesB l = true) (hc : ∀ (k : Nat) (a : Laid), c[k]? = some a → a.Ok l) (h0 : 0 < c.length) (hlen : c.length ≤ 1000) (w : World)
    (hl : Plates w PA pcap l) (hcs : Laids w CA ccap c) :
    Calls Tryd.prog 75 #[.agg #[.int .i64 s.W, .int .i64 s.D, .int .i64 s.H, .slice A s.cells.length cap], .slice PA l.length pcap, .slice CA c.length ccap] w fun e w' =>
      e = .returned (.bool (hangB s l c)) ∧ Ext w w' := by
  have hmk := make_bools c.length (by omega)
  obtain ⟨W1, hW1, E1, B1, hz1⟩ := box_ w #[.int .i64 s.W, .int .i64 s.D, .int .i64 s.H, .slice A s.cells.length cap] 24
  obtain ⟨W2, hW2, E2, B2, hz2⟩ := box_ W1 (boolsA (List.replicate c.length false)) 4
  rw [hz1] at B2
  have B1 := B1.ext E2
  obtain ⟨S, hS⟩ : ∃ S, w.heap.size = S := ⟨_, rfl⟩
  rw [hS] at B1 B2
  obtain ⟨W3, hW3, B3, keep3, ext3, hz3⟩ := B2.store1 0 (.bool true)
  rw [boolsA_set] at B3
  have E3 : Ext w W3 := ext3 w (E1.trans E2) (by omega)
  have BS3 := keep3 S _ _ (by omega) B1
  have bu2 : W2.cell? ⟨S + 1, 0, none⟩ = some (.bool false) := by
    rw [B2.cell, boolsA_get, List.getElem?_replicate, if_pos h0]
    rfl
  have fu2 := B2.frozen 0
  have Hc := Lib.hid hc
  clear hc keep3 ext3
  go_enter Tryd.func75, Tryd.ntmps75
  go_wp2_with fail
  clear hmk bu2 fu2 hz1 hz2 hz3 hW1 hW2 hW3 B1 B2
  have HS := Lib.hid hS
  clear hS
  go_loopw [8, 9] (fun nv ch wr => ∃ (n : Nat) (b : Bool) (ins : List Bool), nv = .int .i64 n ∧ ch = .bool b ∧ Hid (InT s l c ins n ∧ (b = false → ClosedTo s l c ins c.length 0)) ∧ Ext w wr ∧
      Blk wr S 24 #[.int .i64 s.W, .int .i64 s.D, .int .i64 s.H, .slice A s.cells.length cap] ∧ Blk wr (S + 1) 4 (boolsA ins)) (fun nv ch _ => 2 * (c.length - (intOf nv).toNat) + flag ch)
  case atStart => exact ⟨1, true, _, rfl, rfl, Lib.hid ⟨InT.start h0, fun h => by cases h⟩, E3, BS3, B3⟩
  case round =>
    obtain ⟨n, b, ins, rfl, rfl, HI, E, BS, BU⟩ := hrel
    have hn := HI.out.1.le
    clear E3 BS3 B3
    cases b
    · have Hr := Lib.hid (PassI.done HI.out.1 (HI.out.2 rfl))
      by_cases he : n = c.length
      · subst he
        go_wp2_with fail
        go_ret
        exact ⟨by rw [Hr.out]; simp, E⟩
      · have e1 : ((n : Int) == (c.length : Int)) = false := by simp; omega
        have He := Lib.hid he
        clear he
        go_wp2_with fail
        go_ret
        exact ⟨by rw [Hr.out, decide_eq_false He.out] <;> rfl, E⟩
    · obtain ⟨wo, rfl⟩ : ∃ wo : World, wo = wr := ⟨_, rfl⟩
      go_wp2_with fail
      go_loopw [8, 9, 10] (fun nv ch iv wr => ∃ (n' i : Nat) (b : Bool) (ins : List Bool), i ≤ c.length ∧ nv = .int .i64 n' ∧ ch = .bool b ∧ iv = .int .i64 i ∧ Hid (PassI s l c n ins n' b i 0) ∧ Ext w wr ∧
        Blk wr S 24 #[.int .i64 s.W, .int .i64 s.D, .int .i64 s.H, .slice A s.cells.length cap] ∧ Blk wr (S + 1) 4 (boolsA ins)) (fun _ _ iv _ => c.length - (intOf iv).toNat)
      case atStart => exact ⟨n, 0, false, ins, by omega, rfl, rfl, rfl, Lib.hid (PassI.start HI.out.1), E, BS, BU⟩
      case round =>
        clear E BS BU
        obtain ⟨n', i, b, ins', hi, rfl, rfl, rfl, HP, E, BS, BU⟩ := hrel
        have hn' := HP.out.1.le
        by_cases hlt : i < c.length
        · obtain ⟨wo, rfl⟩ : ∃ wo : World, wo = wr := ⟨_, rfl⟩
          go_wp2_with fail
          go_loopw [8, 9, 11] (fun nv ch kv wr => ∃ (n' k : Nat) (b : Bool) (ins : List Bool), k ≤ c.length ∧ nv = .int .i64 n' ∧ ch = .bool b ∧ kv = .int .i64 k ∧ Hid (PassI s l c n ins n' b i k) ∧ Ext w wr ∧
            Blk wr S 24 #[.int .i64 s.W, .int .i64 s.D, .int .i64 s.H, .slice A s.cells.length cap] ∧ Blk wr (S + 1) 4 (boolsA ins)) (fun _ _ kv _ => c.length - (intOf kv).toNat)
          case atStart => exact ⟨n', 0, b, ins', by omega, rfl, rfl, rfl, HP, E, BS, BU⟩
          case round =>
            clear E BS BU HP hn'
            obtain ⟨n', k, b, ins', hk, rfl, rfl, rfl, HP, E, BS, BU⟩ := hrel
            have hn' := HP.out.1.le
            by_cases hlt2 : k < c.length
            · obtain ⟨bi, gi⟩ := HP.out.1.get hlt
              obtain ⟨bk, gk⟩ := HP.out.1.get hlt2
              have ci : wr.cell? ⟨S + 1, i, none⟩ = some (.bool bi) := by rw [BU.cell, boolsA_get, gi]; rfl
              have ck : wr.cell? ⟨S + 1, k, none⟩ = some (.bool bk) := by rw [BU.cell, boolsA_get, gk]; rfl
              have bs := BS.cell
              have Gi := Lib.hid gi
              have Gk := Lib.hid gk
              clear gi gk
              cases bi
              · have Hno : Hid (ins'[i]? = some true → ins'[k]? = some false → ¬ Tl s l c i k) := Lib.hid (fun h => by rw [Gi.out] at h; cases h)
                go_wp2_with fail
                refine wp_region_grow (by kernel_rfl) (by kernel_rfl) ?_
                repeat (go_big_quiet_step (fail))
                refine wpQuiet_nil ?_
                intro W7 hW7
                have E7 : Ext wr W7 := by
                  obtain ⟨x, rfl⟩ := hW7
                  exact (Ext.refl _).grow x
                clear hW7
                obtain ⟨hcW7, hfW7, hzW7⟩ := ext_facts E7
                go_wp2_with fail
                go_roundw
                case rel => exact ⟨n', k + 1, b, ins', by omega, rfl, rfl, by go_num, Lib.hid (HP.out.same Hno.out), E.trans E7, BS.ext E7, BU.ext E7⟩
                case measure => simp only [intOf]; omega
              · cases bk
                · obtain ⟨lb, loff, la, rfl, hla, hlb, a0, a1, a2, a3, a4⟩ := (hcs.ext E).at_ hlt
                  obtain ⟨lb', loff', lk, hA', hlk, hlb', k0, k1, k2, k3, k4⟩ := (hcs.ext E).at_ hlt2
                  cases hA'
                  have oka := Hc.out i la hla
                  have okk := Hc.out k lk hlk
                  have hlr := hl.ext E
                  have Hel : Hid (Tl s l c i k = (touchB s l la lk = true)) := Lib.hid (by unfold Tl; rw [laidAt_eq hla, laidAt_eq hlk])
                  clear hla hlk
                  cases t : touchB s l la lk
                  · have Hno : Hid (ins'[i]? = some true → ins'[k]? = some false → ¬ Tl s l c i k) := Lib.hid (fun _ _ => by rw [Hel.out, t]; simp)
                    have T := Lib.hid t
                    clear t
                    go_wp2_with fail
                    refine wp_region_grow (by kernel_rfl) (by kernel_rfl) ?_
                    repeat (go_big_quiet_step ((go_at_call 104; exact quiet_ext (touch_is T.out ok okl oka okk _ (hlr.grow_ _)))))
                    refine wpQuiet_nil ?_
                    intro W7 hW7
                    have E7 : Ext wr W7 := by
                      obtain ⟨x, rfl⟩ := hW7
                      exact (Ext.refl _).grow x
                    clear hW7
                    obtain ⟨hcW7, hfW7, hzW7⟩ := ext_facts E7
                    go_wp2_with fail
                    go_roundw
                    case rel => exact ⟨n', k + 1, b, ins', by omega, rfl, rfl, by go_num, Lib.hid (HP.out.same Hno.out), E.trans E7, BS.ext E7, BU.ext E7⟩
                    case measure => simp only [intOf]; omega
                  · have Hyes : Hid (Tl s l c i k) := Lib.hid (by rw [Hel.out, t])
                    have T := Lib.hid t
                    clear t
                    go_wp2_with fail
                    refine wp_region_grow (by kernel_rfl) (by kernel_rfl) ?_
                    repeat (go_big_quiet_step ((go_at_call 104; exact quiet_ext (touch_is T.out ok okl oka okk _ (hlr.grow_ _)))))
                    refine wpQuiet_nil ?_
                    intro W7 hW7
                    have E7 : Ext wr W7 := by
                      obtain ⟨x, rfl⟩ := hW7
                      exact (Ext.refl _).grow x
                    clear hW7
                    obtain ⟨hcW7, hfW7, hzW7⟩ := ext_facts E7
                    have BU7 := BU.ext E7
                    have E07 := E.trans E7
                    clear hcW7 hfW7 hzW7 ci ck bs a0 a1 a2 a3 a4 k0 k1 k2 k3 k4
                    have ck7 : W7.cell? ⟨S + 1, k, none⟩ = some (.bool false) := by rw [BU7.cell, boolsA_get, Gk.out]; rfl
                    have fk7 := BU7.frozen k
                    obtain ⟨W8, hW8, BU8, keep8, ext8, hz8⟩ := BU7.store1 k (.bool true)
                    rw [boolsA_set] at BU8
                    have E08 : Ext w W8 := ext8 w E07 (by rw [HS.out]; omega)
                    have BS8 := keep8 S _ _ (by omega) (BS.ext E7)
                    clear keep8 ext8 hz8
                    go_wp2_with fail
                    go_roundw
                    case rel => exact ⟨n' + 1, k + 1, true, ins'.set k true, by omega, by go_num, rfl, by go_num, Lib.hid (HP.out.more Gi.out Gk.out Hyes.out), E08, BS8, BU8⟩
                    case measure => simp only [intOf]; omega
                · have Hno : Hid (ins'[i]? = some true → ins'[k]? = some false → ¬ Tl s l c i k) := Lib.hid (fun _ h => by rw [Gk.out] at h; cases h)
                  go_wp2_with fail
                  refine wp_region_grow (by kernel_rfl) (by kernel_rfl) ?_
                  repeat (go_big_quiet_step (fail))
                  refine wpQuiet_nil ?_
                  intro W7 hW7
                  have E7 : Ext wr W7 := by
                    obtain ⟨x, rfl⟩ := hW7
                    exact (Ext.refl _).grow x
                  clear hW7
                  obtain ⟨hcW7, hfW7, hzW7⟩ := ext_facts E7
                  go_wp2_with fail
                  go_roundw
                  case rel => exact ⟨n', k + 1, b, ins', by omega, rfl, rfl, by go_num, Lib.hid (HP.out.same Hno.out), E.trans E7, BS.ext E7, BU.ext E7⟩
                  case measure => simp only [intOf]; omega
            · obtain rfl : k = c.length := by omega
              go_wp2_with fail
              go_roundw
              case rel => exact ⟨n', i + 1, b, ins', by omega, rfl, rfl, by go_num, Lib.hid HP.out.next, E, BS, BU⟩
              case measure => simp only [intOf]; omega
        · obtain rfl : i = c.length := by omega
          have h2 := HP.out.2.1
          have h3 := HP.out.2.2.1
          go_wp2_with fail
          go_roundw
          case rel => exact ⟨n', b, ins', rfl, rfl, Lib.hid ⟨HP.out.1, HP.out.2.2.2⟩, E, BS, BU⟩
          case measure =>
            cases b
            · simp only [intOf, flag]; omega
            · have := h3 rfl
              simp only [intOf, flag]; omega
end Go.Proofs.YtaaeapjnjjbglaaDoor

namespace Go.Proofs.YtaaeapjnjjbglaaDoor
open Go.RowKit

theorem comp_pos {s : Shape} {l : List Plate} {c : List Laid} (ok : s.Ok) (h : compB s l c = true) : 0 < c.length := by
  rcases Nat.eq_zero_or_pos c.length with h0 | h0
  · exfalso
    obtain rfl : c = [] := List.eq_nil_of_length_eq_zero h0
    unfold compB at h
    rw [Bool.and_eq_true, List.all_eq_true, List.all_eq_true] at h
    have hz : ∀ x ∈ s.cells, x = 0 := fun x hx => by
      obtain ⟨i, hi⟩ := List.getElem?_of_mem hx
      have := h.2 i (List.mem_range.2 (List.getElem?_eq_some_iff.1 hi).1)
      unfold coveredAt at this
      rw [List.getD_eq_getElem?_getD, hi, Bool.or_eq_true, decide_eq_true_eq, decide_eq_true_eq] at this
      rcases this with h1 | h1
      · exact h1
      · have : byI l [] (s.px i) (s.py i) (s.pz i) = -1 := rfl
        omega
    have hf : fullN s.cells = 0 := by
      unfold fullN
      rw [List.countP_eq_zero]
      intro a ha
      simp [hz a ha]
    have := ok.full
    omega
  · exact h0

noncomputable def hangR (s : Shape) (l : List Plate) (c : List Laid) : Bool := if compErr s l c = 0 then hangB s l c else false
def weakR (s : Shape) (l : List Plate) (c : List Laid) : Nat := if compErr s l c = 0 then weakTo s l c s.cells.length else 0

end Go.Proofs.YtaaeapjnjjbglaaDoor
