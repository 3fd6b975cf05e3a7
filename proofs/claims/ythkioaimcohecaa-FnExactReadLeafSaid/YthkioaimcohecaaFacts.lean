/-
  Closed facts on this seat's program. No condition.
-/
import Derived.Test.YthkioaimcohecaaChecked
import Derived.Test.YthkioaimcohecaaLift
namespace Go.Proofs.Ythkioaimcohecaa
theorem own : ownKnob Try.prog.godebug = none := by kernel_rfl
theorem laidOut : laidOutB Try.prog = true := by kernel_rfl
end Go.Proofs.Ythkioaimcohecaa
