/-
  The laws' own copying and comparing functions at Receipt: walks. Written by program (gen_conv.py). No condition.
-/
import Derived.Test.YteaphajagmbllaaGreatTypes
import Derived.StillTailTactics
namespace Go.Proofs.YteaphajagmbllaaGreat
open Go.RowKit
set_option linter.unusedVariables false

def ReceiptD.lens (d : ReceiptD) : List Nat := [d.reader.size, d.topic.size]
theorem szReceipt_any (d : ReceiptD) (left : Int) (w : World) (hd : d.Ok) (h0 : 0 ≤ left) (h1 : left ≤ 1048576) :
    Calls Tryz.prog 11 #[.agg #[.string d.reader, .string d.topic, .int .i64 d.index], .int .i64 left] w fun e w' => e = .returned (.int .i64 (szL d.lens left)) ∧ Ext w w' := by
  obtain ⟨k0, k1, k2⟩ := hd
  unfold maxLen at *
  clear k2
  go_enter Tryz.func11, Tryz.ntmps11
  go_wp2
  all_goals
    go_ret
    exact ⟨ret_int (by simp only [szL, ReceiptD.lens]; (repeat' split) <;> omega), by go_grown⟩
theorem toReceipt_any (d : ReceiptD) (w : World) :
    Calls Tryz.prog 20 #[.agg #[.string d.reader, .string d.topic, .int .i64 d.index]] w fun e w' => e = .returned (.agg #[.string d.reader, .string d.topic, .int .i64 d.index]) ∧ Ext w w' := by
  go_enter Tryz.func20, Tryz.ntmps20
  go_wp2
  go_returns
  exact ⟨rfl, by go_grown⟩
theorem eqReceipt_same (d : ReceiptD) (w : World) :
    Calls Tryz.prog 28 #[.agg #[.string d.reader, .string d.topic, .int .i64 d.index], .agg #[.string d.reader, .string d.topic, .int .i64 d.index]] w fun e w' => e = .returned (.bool true) ∧ Ext w w' := by
  go_enter Tryz.func28, Tryz.ntmps28
  go_wp2
  go_ret
  exact ⟨rfl, by go_grown⟩
end Go.Proofs.YteaphajagmbllaaGreat
