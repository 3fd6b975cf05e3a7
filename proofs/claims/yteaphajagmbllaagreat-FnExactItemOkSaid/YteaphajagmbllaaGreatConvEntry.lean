/-
  The laws' own copying and comparing functions at Entry: walks. Written by program (gen_conv.py). No condition.
-/
import Derived.Test.YteaphajagmbllaaGreatTypes
import Derived.StillTailTactics
namespace Go.Proofs.YteaphajagmbllaaGreat
open Go.RowKit
set_option linter.unusedVariables false

def EntryD.lens (d : EntryD) : List Nat := [d.topic.size, d.key.size, d.body.size]
theorem szEntry_any (d : EntryD) (left : Int) (w : World) (hd : d.Ok) (h0 : 0 ≤ left) (h1 : left ≤ 1048576) :
    Calls Tryz.prog 10 #[.agg #[.string d.topic, .int .i64 d.index, .int .i64 d.time, .string d.key, .string d.body], .int .i64 left] w fun e w' => e = .returned (.int .i64 (szL d.lens left)) ∧ Ext w w' := by
  obtain ⟨k0, k1, k2, k3, k4⟩ := hd
  unfold maxLen at *
  clear k1 k2
  go_enter Tryz.func10, Tryz.ntmps10
  go_wp2
  all_goals
    go_ret
    exact ⟨ret_int (by simp only [szL, EntryD.lens]; (repeat' split) <;> omega), by go_grown⟩
theorem toEntry_any (d : EntryD) (w : World) :
    Calls Tryz.prog 19 #[.agg #[.string d.topic, .int .i64 d.index, .int .i64 d.time, .string d.key, .string d.body]] w fun e w' => e = .returned (.agg #[.string d.topic, .int .i64 d.index, .int .i64 d.time, .string d.key, .string d.body]) ∧ Ext w w' := by
  go_enter Tryz.func19, Tryz.ntmps19
  go_wp2
  go_returns
  exact ⟨rfl, by go_grown⟩
theorem eqEntry_same (d : EntryD) (w : World) :
    Calls Tryz.prog 27 #[.agg #[.string d.topic, .int .i64 d.index, .int .i64 d.time, .string d.key, .string d.body], .agg #[.string d.topic, .int .i64 d.index, .int .i64 d.time, .string d.key, .string d.body]] w fun e w' => e = .returned (.bool true) ∧ Ext w w' := by
  go_enter Tryz.func27, Tryz.ntmps27
  go_wp2
  go_ret
  exact ⟨rfl, by go_grown⟩
end Go.Proofs.YteaphajagmbllaaGreat
