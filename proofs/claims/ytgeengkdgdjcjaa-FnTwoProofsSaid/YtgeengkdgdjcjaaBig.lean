/-
  Receipts; ConvReceipt; ReadRec; Leaf; LeafText; ReadLf; LeafBk; Big: No condition.
-/
import Derived.Test.YtgeengkdgdjcjaaTexts
import Derived.StillTailTactics
import Derived.Test.YtgeengkdgdjcjaaMeetOps
import Derived.Test.YtgeengkdgdjcjaaPlacesW
namespace Go.Proofs.Ytgeengkdgdjcjaa
set_option linter.unusedSimpArgs false
open Go.RowKit
set_option linter.unusedVariables false







theorem big_any (A : Option Addr) (n c : Nat) (w : World) (h : n ≤ maxLen) : Calls Try.prog 4 #[.slice A n c] w fun e w' => e = .returned (.bool (decide (1048576 < n))) ∧ w = w' := by
 by_cases hb : 1048576 < n
 · have hd : decide (1048576 < n) = true := decide_eq_true hb
   rw [hd]
   go_enter Try.func4, Try.ntmps4
   go_wp2_with fail
   go_ret
   exact ⟨ret_bool (by simp; omega), rfl⟩
 · have hd : decide (1048576 < n) = false := decide_eq_false hb
   rw [hd]
   go_enter Try.func4, Try.ntmps4
   go_wp2_with fail
   go_ret
   exact ⟨ret_bool (by simp; omega), rfl⟩
end Go.Proofs.Ytgeengkdgdjcjaa
