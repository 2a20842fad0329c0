
/- The cells of a list of joints in memory. -/
import Derived.Test.YtjacbhomhjoolaaGreatBJoints
namespace Go.Proofs.YtjacbhomhjoolaaGreat
open Go.RowKit

def jntGet (l : List Jnt) (i : Nat) : Jnt := l.getD i ⟨0,0,0,0,false⟩
theorem jntGet_get {l : List Jnt} {i : Nat} (h : i < l.length) : l[i]? = some (jntGet l i) := by
 unfold jntGet
 rw [List.getD_eq_getElem?_getD,List.getElem?_eq_getElem h]
 rfl
theorem jnts_cell {w : World} {A : Option Addr} {cap : Nat} {l : List Jnt} (h : Jnts w A cap l) {k : Nat} (hk : k < l.length) {g off : Nat} (hA : A = some ⟨g,off,none⟩) : w.cell? ⟨g,off + k * 5,none⟩ = some (.int .i64 (jntGet l k).a) ∧ w.cell? ⟨g,off + k * 5 + 1,none⟩ = some (.int .i64 (jntGet l k).b) ∧
  w.cell? ⟨g,off + k * 5 + 2,none⟩ = some (.int .i64 (jntGet l k).strength) ∧ w.cell? ⟨g,off + k * 5 + 3,none⟩ = some (.int .u8 (jntGet l k).axis) ∧ w.cell? ⟨g,off + k * 5 + 4,none⟩ = some (.bool (jntGet l k).slides) := by
 obtain ⟨b,o,hA', -,hc⟩ := SliceIs.cells h (by omega)
 rw [hA'] at hA
 cases hA
 have hr : (l.map Jnt.cs)[k]? = some (jntGet l k).cs := by rw [List.getElem?_map,jntGet_get hk]; rfl
 exact ⟨hc k _ hr 0 _ rfl,hc k _ hr 1 _ rfl,hc k _ hr 2 _ rfl,hc k _ hr 3 _ rfl,hc k _ hr 4 _ rfl⟩
end Go.Proofs.YtjacbhomhjoolaaGreat
