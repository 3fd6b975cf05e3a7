/-
  Closed facts on this seat's program. No condition.
-/
import Derived.Test.YteaphajagmbllaaDoorChecked
import Derived.Test.YteaphajagmbllaaDoorLift
namespace Go.Proofs.YteaphajagmbllaaDoor
theorem own : ownKnob Tryd.prog.godebug = none := by kernel_rfl
theorem laidOut : laidOutB Tryd.prog = true := by kernel_rfl
end Go.Proofs.YteaphajagmbllaaDoor
