/-
  Closed facts on this seat's program. No condition.
-/
import Derived.Test.YtichegndafnjeaaDoorChecked
import Derived.Test.YtichegndafnjeaaDoorLift
namespace Go.Proofs.YtichegndafnjeaaDoor
theorem own : ownKnob Tryd.prog.godebug = none := by kernel_rfl
theorem laidOut : laidOutB Tryd.prog = true := by kernel_rfl
end Go.Proofs.YtichegndafnjeaaDoor
