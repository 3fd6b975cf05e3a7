/-
  The program's Reopen returns what the reference's returns, for all arguments. Written by program (gen_lawreopen.py). No condition.
-/
import Derived.Test.YtlgdghpnfclgpaaGreatRows
import Derived.Test.YtlgdghpnfclgpaaGreatArgs
import Derived.Test.YtlgdghpnfclgpaaGreatReopLw
import Derived.Test.YtlgdghpnfclgpaaGreatReopFx
namespace Go.Proofs.YtlgdghpnfclgpaaGreat
set_option linter.unusedSimpArgs false
open Go.RowKit Go.WideShapes Go.ChangeAt
set_option linter.unusedVariables false
set_option maxRecDepth 100000 in
theorem Reopen_holds : Rows.FnExactReopenSaid :=
 lawOver (p := Tryz.pinned) (c := Rows.fnExactReopenRow) (s := Rows.fnExactReopenSpec) 5 Tryz.f5 4
  own laidOut (by kernel_rfl) (by kernel_rfl) rfl rfl Tryz.underlying4
  (fun H ds h => by match ds, h with | [d0, d1], _ => rfl)
  rfl rfl rfl rfl rfl rfl rfl ⟨rfl, rfl, rfl, rfl, rfl⟩ rfl rfl rfl rfl rfl (by kernel_rfl) Tryz.func5 rpFacts
  (of_decide_eq_true (by kernel_rfl)) (by unfold Func.isWrapper; rw [if_neg (of_decide_eq_false (by kernel_rfl))]; exact ⟨rfl, rfl⟩)
  rfl rfl (fun _ _ => rfl) rfl rfl rfl rfl
  (fun os started H enc => ChangeSpec.witness6 (enc := enc) (C := Tryz.checked) false ⟨#[], #[.int .i64 0, .agg #[.slice none 0 0]], []⟩ 20 (by kernel_rfl) (by kernel_rfl) (by kernel_rfl) (by kernel_rfl))
  (fun W args h => by
   have hs := h.size
   obtain ⟨l⟩ := args
   match l, hs with
   | [v0, v1], _ =>
     obtain ⟨base0, n0, o0, t0⟩ := h.arg 0 3 v0 rfl rfl
     obtain ⟨base1, n1, o1, t1⟩ := h.arg 1 24 v1 rfl rfl
     obtain ⟨n, rfl⟩ := okWide_int Tryz.underlying3 o0
     obtain ⟨cs1, rfl, _⟩ := okWide_struct Tryz.underlying24 o1
     obtain ⟨d, ⟨A0, c0, e1, s0⟩, hok⟩ := DiskD.typed t1
     obtain rfl : cs1 = #[.slice A0 d.files.length c0] := by have h2 : cs1.toList = [.slice A0 d.files.length c0] := e1; rw [← Array.toList_inj, h2]
     exact lawReopen_walk n d A0 c0 W hok s0 )
#print axioms Reopen_holds
end Go.Proofs.YtlgdghpnfclgpaaGreat
