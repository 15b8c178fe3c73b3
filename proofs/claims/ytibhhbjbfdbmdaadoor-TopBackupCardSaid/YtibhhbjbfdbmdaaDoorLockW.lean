/- The walks of lock.op and lock.Check: what they tell, as a function of the ops. -/
import Derived.Test.YtibhhbjbfdbmdaaDoorCoinW
import Derived.Test.YtibhhbjbfdbmdaaDoorMonW
import Derived.Test.YtibhhbjbfdbmdaaDoorBoolW
import Derived.Test.YtibhhbjbfdbmdaaDoorRow
namespace Go.Proofs.YtibhhbjbfdbmdaaDoor
set_option linter.unusedVariables false
open Go.RowKit Go.Mny
/-- what is wrong with one op by itself: 0, or the error's number -/
def opN (o n : Int) (len : Nat) : Int :=
  if o < 1 ∨ 14 < o then 1
  else if (n ≠ 0 ∧ o ≠ 9 ∧ o ≠ 10) ∨ (0 < len ∧ o ≠ 1) then 1
  else if 300 < len then 4
  else if (o = 9 ∧ (n < 1 ∨ 9 < n)) ∨ (o = 10 ∧ (n < 0 ∨ 1073741824 < n)) then 2
  else 0
set_option maxHeartbeats 4000000 in
set_option maxRecDepth 100000 in
theorem op_any (o n : Int) (A : Option Addr) (len c : Nat) (w : World) :
    Calls Tryd.prog 75 #[.agg #[.int .i64 o, .int .i64 n, .slice A len c]] w fun e w' => e = .returned (errV (opN o n len)) ∧ Below w.heap.size w w' := by
  go_enter Tryd.func75, Tryd.ntmps75
  go_wp2
  all_goals
    go_ret
    refine ⟨congrArg Ending.returned ?_, (Below.refl _ _).alloc (Nat.le_refl _) _⟩
  all_goals
    simp only [bne_iff_ne, ne_eq, bne_eq_false_iff_eq] at *
  all_goals
    first
    | exact (congrArg errV (show opN o n len = 1 by unfold opN; repeat' split <;> first | rfl | omega)).symm
    | exact (congrArg errV (show opN o n len = 4 by unfold opN; repeat' split <;> first | rfl | omega)).symm
    | exact (congrArg errV (show opN o n len = 2 by unfold opN; repeat' split <;> first | rfl | omega)).symm
    | exact (congrArg errV (show opN o n len = 0 by unfold opN; repeat' split <;> first | rfl | omega)).symm
    | exact (congrArg errV (show opN o 0 len = 1 by unfold opN; repeat' split <;> first | rfl | omega)).symm
    | exact (congrArg errV (show opN o 0 len = 4 by unfold opN; repeat' split <;> first | rfl | omega)).symm
    | exact (congrArg errV (show opN o 0 len = 2 by unfold opN; repeat' split <;> first | rfl | omega)).symm
    | exact (congrArg errV (show opN o 0 len = 0 by unfold opN; repeat' split <;> first | rfl | omega)).symm
    | exact (congrArg errV (show opN 9 n len = 1 by unfold opN; repeat' split <;> first | rfl | omega)).symm
    | exact (congrArg errV (show opN 9 n len = 4 by unfold opN; repeat' split <;> first | rfl | omega)).symm
    | exact (congrArg errV (show opN 9 n len = 2 by unfold opN; repeat' split <;> first | rfl | omega)).symm
    | exact (congrArg errV (show opN 9 n len = 0 by unfold opN; repeat' split <;> first | rfl | omega)).symm
    | exact (congrArg errV (show opN 10 n len = 1 by unfold opN; repeat' split <;> first | rfl | omega)).symm
    | exact (congrArg errV (show opN 10 n len = 4 by unfold opN; repeat' split <;> first | rfl | omega)).symm
    | exact (congrArg errV (show opN 10 n len = 2 by unfold opN; repeat' split <;> first | rfl | omega)).symm
    | exact (congrArg errV (show opN 10 n len = 0 by unfold opN; repeat' split <;> first | rfl | omega)).symm
    | (exfalso; omega)
end Go.Proofs.YtibhhbjbfdbmdaaDoor
