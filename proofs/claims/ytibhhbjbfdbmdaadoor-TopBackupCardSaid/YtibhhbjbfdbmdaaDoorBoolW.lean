/- Slices of bools. -/
import Derived.Test.YtibhhbjbfdbmdaaDoorMake
import Derived.Test.YtibhhbjbfdbmdaaDoorShaOfW
namespace Go.Proofs.YtibhhbjbfdbmdaaDoor
set_option linter.unusedVariables false
open Go.RowKit Go.Mny
def bv (bs : List Bool) : List Value := bs.map Value.bool
theorem bv_set (bs : List Bool) (i : Nat) (b : Bool) : (bv bs).set i (.bool b) = bv (bs.set i b) := by simp [bv, List.map_set]
theorem boolsE : Elt Tryd.prog 138 4 1 1 := Elt.of Tryd.underlying138 (.bool false) (by kernel_rfl) rfl (by decide)
end Go.Proofs.YtibhhbjbfdbmdaaDoor
