/-
  Closed facts on this seat's program. No condition.
-/
import Derived.Test.YtaicjimppcledaaChecked
import Derived.Test.YtaicjimppcledaaLift
namespace Go.Proofs.Ytaicjimppcledaa
theorem own : ownKnob Try.prog.godebug = none := by kernel_rfl
theorem laidOut : laidOutB Try.prog = true := by kernel_rfl
end Go.Proofs.Ytaicjimppcledaa
