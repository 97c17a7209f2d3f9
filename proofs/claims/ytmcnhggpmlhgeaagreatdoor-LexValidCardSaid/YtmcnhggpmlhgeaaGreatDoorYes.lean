/-
  What every law's walk shows: the call returns true and leaves what was there.
-/
import Derived.WalkKit
namespace Go.Proofs.YtmcnhggpmlhgeaaGreatDoor
open Go.RowKit
/-- the call returns true and leaves what was there -/
def Yes (w : World) (e : Ending) (w' : World) : Prop := e = .returned (.bool true) ∧ Below w.heap.size w w'
end Go.Proofs.YtmcnhggpmlhgeaaGreatDoor
