/-
  The laws' own copying and comparing functions at Head: walks. Written by program (gen_conv.py). No condition.
-/
import Derived.Test.YteaphajagmbllaaGreatTypes
import Derived.StillTailTactics
namespace Go.Proofs.YteaphajagmbllaaGreat
open Go.RowKit
set_option linter.unusedVariables false

def HeadD.lens (d : HeadD) : List Nat := [d.root.size, d.takenRoot.size]
theorem szHead_any (d : HeadD) (left : Int) (w : World) (hd : d.Ok) (h0 : 0 ≤ left) (h1 : left ≤ 1048576) :
    Calls Tryz.prog 9 #[.agg #[.int .i64 d.number, .int .i64 d.size, .string d.root, .int .i64 d.taken, .string d.takenRoot], .int .i64 left] w fun e w' => e = .returned (.int .i64 (szL d.lens left)) ∧ Ext w w' := by
  obtain ⟨k0, k1, k2, k3, k4⟩ := hd
  unfold maxLen at *
  clear k0 k1 k3
  go_enter Tryz.func9, Tryz.ntmps9
  go_wp2
  all_goals
    go_ret
    exact ⟨ret_int (by simp only [szL, HeadD.lens]; (repeat' split) <;> omega), by go_grown⟩
theorem toHead_any (d : HeadD) (w : World) :
    Calls Tryz.prog 18 #[.agg #[.int .i64 d.number, .int .i64 d.size, .string d.root, .int .i64 d.taken, .string d.takenRoot]] w fun e w' => e = .returned (.agg #[.int .i64 d.number, .int .i64 d.size, .string d.root, .int .i64 d.taken, .string d.takenRoot]) ∧ Ext w w' := by
  go_enter Tryz.func18, Tryz.ntmps18
  go_wp2
  go_returns
  exact ⟨rfl, by go_grown⟩
theorem eqHead_same (d : HeadD) (w : World) :
    Calls Tryz.prog 26 #[.agg #[.int .i64 d.number, .int .i64 d.size, .string d.root, .int .i64 d.taken, .string d.takenRoot], .agg #[.int .i64 d.number, .int .i64 d.size, .string d.root, .int .i64 d.taken, .string d.takenRoot]] w fun e w' => e = .returned (.bool true) ∧ Ext w w' := by
  go_enter Tryz.func26, Tryz.ntmps26
  go_wp2
  go_ret
  exact ⟨rfl, by go_grown⟩
end Go.Proofs.YteaphajagmbllaaGreat
