/- Slices that read as rows of cells. -/
import Derived.Test.YtpikemglnnjemaaGrow
namespace Go.Proofs.Ytpikemglnnjemaa
open Go.RowKit

/-- The slice '.slice A n cap' reads, in w, as the rows of sz cells each. -/
structure SliceIs (w : World) (A : Option Addr) (n cap sz : Nat) (rows : List (List Value)) : Prop where
  len : rows.length = n
  le : n ≤ cap
  small : cap ≤ maxLen
  wide : ∀ r ∈ rows, r.length = sz
  cells : 0 < n → ∃ b off, A = some ⟨b, off, none⟩ ∧ b < w.heap.size ∧ ∀ i r, rows[i]? = some r → ∀ j u, r[j]? = some u → w.cell? ⟨b, off + i * sz + j, none⟩ = some u

theorem SliceIs.ext {w w' : World} {A : Option Addr} {n cap sz : Nat} {rows : List (List Value)} (h : SliceIs w A n cap sz rows) (e : Ext w w') : SliceIs w' A n cap sz rows := by
  obtain ⟨h1, h2, h3, h4, h5⟩ := h
  refine ⟨h1, h2, h3, h4, fun hn => ?_⟩
  obtain ⟨b, off, hA, hb, hc⟩ := h5 hn
  exact ⟨b, off, hA, Nat.lt_of_lt_of_le hb e.size, fun i r hr j u hu => e.cell (hc i r hr j u hu)⟩

end Go.Proofs.Ytpikemglnnjemaa
