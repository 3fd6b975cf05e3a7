/-
  Closed facts on this seat's program. No condition.
-/
import Derived.Test.YteaphajagmbllaaGreatChecked
import Derived.Test.YteaphajagmbllaaGreatLift
namespace Go.Proofs.YteaphajagmbllaaGreat
theorem own : ownKnob Tryz.prog.godebug = none := by kernel_rfl
theorem laidOut : laidOutB Tryz.prog = true := by kernel_rfl
end Go.Proofs.YteaphajagmbllaaGreat
