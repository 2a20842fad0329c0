/- The board when it is filled. -/
import Derived.Test.YtpikemglnnjemaaMid
import Derived.Test.YtpikemglnnjemaaWeakS
namespace Go.Proofs.Ytpikemglnnjemaa
open Go.RowKit

theorem own_any {w : World} {b : Nat} {e : TypeId} {sz : Nat} {A : Option Addr} {n cap : Nat} {rows : List (List Value)} (hsz : 0 < sz) (hw : ∀ r ∈ rows, r.length = sz) (hn : rows.length = n) (h : w.ownsRow b e sz (.slice A n cap) n rows.flatten) : SliceIs w A n cap sz rows := by
  rcases Nat.eq_zero_or_pos n with h0 | h0
  · subst h0
    rcases h.2 with ⟨hv, _⟩ | ⟨g, cap', cur, hv, _, _, h1, h2, _⟩
    · cases hv
      exact ⟨hn, Nat.le_refl _, Nat.zero_le _, hw, fun h => by omega⟩
    · cases hv
      exact ⟨hn, h1, h2, hw, fun h => by omega⟩
  · exact own_slice hsz hw hn h0 h
theorem flat_ints (xs : List Int) : (xs.map fun n => [Value.int .i64 n]).flatten = xs.map iv := by
  induction xs with
  | nil => rfl
  | cons x l ih => simp [iv, ih]
theorem flat_maps (ms : List Nat) : (ms.map fun n => [mapV n]).flatten = ms.map mapV := by
  induction ms with
  | nil => rfl
  | cons x l ih => simp [ih]
theorem own_ints {w : World} {b : Nat} {A : Option Addr} {cap : Nat} {xs : List Int} (h : w.ownsRow b 3 1 (.slice A xs.length cap) xs.length (xs.map iv)) : Ints w A cap xs :=
  own_any (by decide) (by simp) (by simp) (by rw [flat_ints]; exact h)
theorem own_pairs {w : World} {b : Nat} {A : Option Addr} {cap : Nat} {es : List (Int × Int)} (h : w.ownsRow b 112 2 (.slice A es.length cap) es.length (es.map pairCells).flatten) : SliceIs w A es.length cap 2 (es.map pairCells) :=
  own_any (by decide) (by
    intro r hr
    obtain ⟨p, _, rfl⟩ := List.mem_map.1 hr
    rfl) (by simp) h
theorem pair_at {w : World} {A : Option Addr} {cap : Nat} {es : List (Int × Int)} (h : SliceIs w A es.length cap 2 (es.map pairCells)) {k : Nat} (hk : k < es.length) :
    ∃ b off p, A = some ⟨b, off, none⟩ ∧ es[k]? = some p ∧ b < w.heap.size ∧ w.cell? ⟨b, off + k * 2, none⟩ = some (.int .i64 p.1) ∧ w.cell? ⟨b, off + k * 2 + 1, none⟩ = some (.int .i64 p.2) := by
  obtain ⟨b, off, hA, hb, hc⟩ := SliceIs.cells h (by omega)
  have hget : es[k]? = some es[k] := List.getElem?_eq_getElem hk
  have hr : (es.map pairCells)[k]? = some (pairCells es[k]) := by rw [List.getElem?_map, hget]; rfl
  exact ⟨b, off, es[k], hA, hget, hb, hc k _ hr 0 _ rfl, hc k _ hr 1 _ rfl⟩

/-! ### what is over the pairs -/
def overT (s : Shape) (k : Nat) : List Int := (overS s).take k
theorem overS_len (s : Shape) : (overS s).length = (eds s).length := by simp [overS, eds]
theorem overT_len {s : Shape} {k : Nat} (h : k ≤ (eds s).length) : (overT s k).length = k := by
  unfold overT
  rw [List.length_take, overS_len]
  omega
theorem overT_succ {s : Shape} {k : Nat} {p : Int × Int} {o : Int} (h : (eds s)[k]? = some p) (ho : overAt (abv s) (eds s) p = o) : overT s (k + 1) = overT s k ++ [o] := by
  unfold overT
  rw [List.take_add_one]
  have : (overS s)[k]? = some o := by
    unfold overS
    rw [List.getElem?_map]
    show Option.map _ (eds s)[k]? = _
    rw [h]
    exact congrArg some ho
  rw [this]
  rfl
theorem overT_all (s : Shape) : overT s (eds s).length = overS s := by
  unfold overT
  rw [List.take_of_length_le (by rw [overS_len]; exact Nat.le_refl _)]

def lookV : Option Nat → Value
  | some v => .tuple #[.int .i64 (v : Int), .bool true]
  | none => .tuple #[.int .i64 0, .bool false]
def overV : Option Nat → Int
  | some j => (j : Int)
  | none => -1
theorem overAt_eq (ab : List Int) (es : List (Int × Int)) (p : Int × Int) : overAt ab es p = overV (getK (pairsOf es) (ab.getD p.1.toNat 0, ab.getD p.2.toNat 0)) := by
  unfold overAt
  cases getK (pairsOf es) (ab.getD p.1.toNat 0, ab.getD p.2.toNat 0) <;> rfl
theorem look_pairs {w : World} {M : Nat} {pm : List ((Int × Int) × Nat)} (h : MapOf encPair encNat w M pm) (a b : Int) : (Instr.lookup 110 (.map (some M)) (.agg #[.int .i64 a, .int .i64 b]) true).run Try.prog w = .ok (lookV (getK pm (a, b))) w := by
  have := lookup_run pairKey Try.underlying110 (w := w) (z := .int .i64 0) (by kernel_rfl) h (a, b) true
  rw [show Value.agg #[.int .i64 a, .int .i64 b] = encPair (a, b) from rfl, this]
  cases getK pm (a, b) <;> rfl

/-! ### the board -/
structure Board (w : World) (g : Nat) (s : Shape) (A : Option Addr) (cap : Nat) (l : List Plate) (PA : Option Addr) (pcap : Nat) (NA : Option Addr) (ncap : Nat) (AA : Option Addr) (acap : Nat) (EA : Option Addr) (ecap : Nat) (OA : Option Addr) (ocap : Nat) (LA : Option Addr) (lcap : Nat) (ms : List Nat) : Prop where
  brd : Brd w g s A cap NA ncap l PA pcap
  c6 : w.cell? ⟨g, 6, none⟩ = some (.slice AA (fullN s.cells) acap)
  c7 : w.cell? ⟨g, 7, none⟩ = some (.slice EA (eds s).length ecap)
  c8 : w.cell? ⟨g, 8, none⟩ = some (.slice OA (eds s).length ocap)
  c9 : w.cell? ⟨g, 9, none⟩ = some (.slice LA (fullN s.cells) lcap)
  above : Ints w AA acap (abv s)
  edges : SliceIs w EA (eds s).length ecap 2 ((eds s).map pairCells)
  over : Ints w OA ocap (overS s)
  lays : SliceIs w LA (fullN s.cells) lcap 1 (ms.map fun n => [mapV n])
  len : ms.length = fullN s.cells
  maps : ∀ (j Mj : Nat), ms[j]? = some Mj → ∃ m, MapOf encSort encSet w Mj m ∧ ∀ q, getK m q = layAt s l ((placesS s s.cells.length).getD j 0) q
theorem Board.ext {w w' : World} {g : Nat} {s : Shape} {A : Option Addr} {cap : Nat} {l : List Plate} {PA : Option Addr} {pcap : Nat} {NA : Option Addr} {ncap : Nat} {AA : Option Addr} {acap : Nat} {EA : Option Addr} {ecap : Nat} {OA : Option Addr} {ocap : Nat} {LA : Option Addr} {lcap : Nat} {ms : List Nat}
    (h : Board w g s A cap l PA pcap NA ncap AA acap EA ecap OA ocap LA lcap ms) (e : Ext w w') : Board w' g s A cap l PA pcap NA ncap AA acap EA ecap OA ocap LA lcap ms :=
  ⟨h.brd.ext e, e.cell h.c6, e.cell h.c7, e.cell h.c8, e.cell h.c9, h.above.ext e, h.edges.ext e, h.over.ext e, h.lays.ext e, h.len, fun j Mj hj => by
    obtain ⟨m, h1, h2⟩ := h.maps j Mj hj
    exact ⟨m, h1.ext e, h2⟩⟩
/-- What look leaves behind. -/
def LookOk (s : Shape) (l : List Plate) (A : Option Addr) (cap : Nat) (PA : Option Addr) (pcap : Nat) (w : World) (e : Ending) (w' : World) : Prop :=
  ∃ g NA ncap AA acap EA ecap OA ocap LA lcap ms, e = .returned (.tuple #[.pointer (some ⟨g, 0, none⟩), .int .i64 0]) ∧ Board w' g s A cap l PA pcap NA ncap AA acap EA ecap OA ocap LA lcap ms ∧ Ext w w'
theorem board_of {s : Shape} {l : List Plate} {A : Option Addr} {cap : Nat} {PA : Option Addr} {pcap G T M NB ncap T2 : Nat} {W5 w : World} {pm : List ((Int × Int) × Nat)} {ms : List Nat} {AA : Option Addr} {acap : Nat} {EA : Option Addr} {ec : Nat} {ov lv : Value}
    (h : Mid s l A cap PA pcap G T M NB ncap W5 w (abv s) (eds s) pm (placesS s s.cells.length) ms (.slice AA (abv s).length acap) EA ec ov lv) (hb : Brd w G s A cap (some ⟨NB, 0, none⟩) ncap l PA pcap)
    (ho : w.ownsRow T2 3 1 ov (overT s (eds s).length).length ((overT s (eds s).length).map iv)) :
    ∃ OA ocap LA lcap, Board w G s A cap l PA pcap (some ⟨NB, 0, none⟩) ncap AA acap EA ec OA ocap LA lcap ms := by
  obtain ⟨OA, ocap, rfl⟩ := own_forms ho
  obtain ⟨LA, lcap, rfl⟩ := own_forms h.ol
  have hp : (placesS s s.cells.length).length = fullN s.cells := by
    rw [placesS_len]
    exact abv_len
  refine ⟨OA, ocap, LA, lcap, hb, ?_, h.c7, ?_, ?_, own_ints h.oa, own_pairs h.oe, ?_, ?_, h.len.trans hp, fun j Mj hj => ?_⟩
  · have := h.c6
    rw [abv_len] at this
    exact this
  · have := h.c8
    rw [overT_len (Nat.le_refl _)] at this
    exact this
  · have := h.c9
    rw [hp] at this
    exact this
  · have := own_ints ho
    rw [overT_all] at this
    exact this
  · have := h.ol
    rw [hp] at this
    exact own_any (by decide) (by simp) (by simp [h.len, hp]) (by rw [flat_maps]; exact this)
  · have hj2 : j < (placesS s s.cells.length).length := by
      have := (List.getElem?_eq_some_iff.1 hj).1
      rw [h.len] at this
      exact this
    have hg : (placesS s s.cells.length)[j]? = some ((placesS s s.cells.length).getD j 0) := by
      rw [List.getD_eq_getElem?_getD, List.getElem?_eq_getElem hj2]
      rfl
    exact (h.maps j Mj _ hj hg).2.2
end Go.Proofs.Ytpikemglnnjemaa
