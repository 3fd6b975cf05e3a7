/-
  Closed facts on this seat's program. No condition.
-/
import Derived.Test.YtichegndafnjeaaChecked
import Derived.Test.YtichegndafnjeaaLift
namespace Go.Proofs.Ytichegndafnjeaa
theorem own : ownKnob Try.prog.godebug = none := by kernel_rfl
theorem laidOut : laidOutB Try.prog = true := by kernel_rfl
end Go.Proofs.Ytichegndafnjeaa
