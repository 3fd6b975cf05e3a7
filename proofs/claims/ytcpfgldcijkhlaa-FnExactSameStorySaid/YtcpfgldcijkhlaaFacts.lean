/-
  Closed facts on this seat's program. No condition.
-/
import Derived.Test.YtcpfgldcijkhlaaChecked
import Derived.Test.YtcpfgldcijkhlaaLift
namespace Go.Proofs.Ytcpfgldcijkhlaa
theorem own : ownKnob Try.prog.godebug = none := by kernel_rfl
theorem laidOut : laidOutB Try.prog = true := by kernel_rfl
end Go.Proofs.Ytcpfgldcijkhlaa
