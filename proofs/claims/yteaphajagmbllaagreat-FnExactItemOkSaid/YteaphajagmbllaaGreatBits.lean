/-
  The number of bits of a number below 512: walk. No condition.
-/
import Derived.Test.YteaphajagmbllaaGreatMem
import Derived.Laws.MathBits
namespace Go.Proofs.YteaphajagmbllaaGreat
open Go.RowKit
set_option linter.unusedVariables false

theorem log2_high {x : Nat} (h0 : 256 ≤ x) (h1 : x < 512) : Nat.log2 x = 8 := (Nat.log2_eq_iff (by omega)).2 ⟨by omega, by omega⟩
theorem bits_low (k : Nat) (h : k ≤ 8) : wrap64 (wrap64 (k : Int)) = (k : Int) := by unfold wrap64; omega
set_option maxRecDepth 1000000 in
set_option maxHeartbeats 8000000 in
theorem Len64_any (x : Nat) (w : World) (h0 : 0 < x) (hx : x < 512) : Calls Tryz.prog 123 #[.int .u64 (x : Int)] w fun e w' => e = .returned (.int .i64 ((Nat.log2 x + 1 : Nat) : Int)) ∧ w = w' := by
  have d1 : decide ((x : Int) ≥ 4294967296) = false := by rw [decide_eq_false_iff_not]; omega
  go_enter Tryz.func123, Tryz.ntmps123
  go_wp2_with fail
  · go_ret
    refine ⟨ret_int ?_, rfl⟩
    have h1 : 256 ≤ x := by omega
    have h2 : x / 256 = 1 := by omega
    rw [log2_high h1 hx, len8tab_get (x / 256) _, h2, show bitLen 1 = 1 by decide +kernel]
    unfold wrap64
    omega
  · go_ret
    refine ⟨ret_int ?_, rfl⟩
    have h1 : x < 256 := by omega
    rw [len8tab_get x _, bits_low _ (bitLen_le8 x h1), bitLen, if_neg (by omega)]
end Go.Proofs.YteaphajagmbllaaGreat
