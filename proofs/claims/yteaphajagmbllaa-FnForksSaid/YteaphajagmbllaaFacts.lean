/-
  Closed facts on this seat's program. No condition.
-/
import Derived.Test.YteaphajagmbllaaChecked
import Derived.Test.YteaphajagmbllaaLift
namespace Go.Proofs.Yteaphajagmbllaa
theorem own : ownKnob Try.prog.godebug = none := by kernel_rfl
theorem laidOut : laidOutB Try.prog = true := by kernel_rfl
end Go.Proofs.Yteaphajagmbllaa
