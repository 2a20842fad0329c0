
/- Opening a number, a cell, a brick, a kind of a law's arguments. -/
import Derived.Test.YtjacbhomhjoolaaGreatBOpen
namespace Go.Proofs.YtjacbhomhjoolaaGreat
open Go.RowKit Go.ChangeShapes Go.WideShapes Go.ChangeAt Go.Deep Go.Joins

section
variable {H : Type} {enc : TypeId × Value → H} {w : World} {base : Nat} {spare : Nat → Bool} {held : Bool}
end
end Go.Proofs.YtjacbhomhjoolaaGreat
