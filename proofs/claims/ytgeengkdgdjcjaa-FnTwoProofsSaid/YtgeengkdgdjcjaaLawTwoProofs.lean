/-
  LawTwoProofs: No condition.
-/
import Derived.Test.YtgeengkdgdjcjaaRows
import Derived.Test.YtgeengkdgdjcjaaSmall
import Derived.Test.YtgeengkdgdjcjaaTpLw
namespace Go.Proofs.Ytgeengkdgdjcjaa
set_option maxRecDepth 100000
set_option linter.unusedSimpArgs false
open Go.RowKit Go.WideShapes Go.ChangeAt
set_option linter.unusedVariables false
theorem TwoProofs_holds : Rows.FnTwoProofsSaid :=
 lawOver (p := Try.pinned) (c := Rows.fnTwoProofsRow) (s := Rows.fnTwoProofsSpec) 3 Try.f3 4
  own laidOut (by kernel_rfl) (by kernel_rfl) rfl rfl Try.underlying4
  (fun H ds h => by match ds, h with | [d0], _ => rfl)
  rfl rfl rfl rfl rfl rfl rfl ⟨rfl, rfl, rfl, rfl, rfl⟩ rfl rfl rfl rfl rfl (by kernel_rfl) Try.func3 (by kernel_rfl)
  (of_decide_eq_true (by kernel_rfl)) (by unfold Func.isWrapper; rw [if_neg (of_decide_eq_false (by kernel_rfl))]; exact ⟨rfl, rfl⟩)
  rfl rfl (fun _ _ => rfl) rfl rfl rfl rfl
  (fun os started H enc => ChangeSpec.witness6 (enc := enc) (C := Try.checked) false ⟨#[], #[.slice none 0 0], []⟩ 20 (by kernel_rfl) (by kernel_rfl) (by kernel_rfl) (by kernel_rfl))
  (fun W args h => by
   have hs := h.size
   obtain ⟨l⟩ := args
   match l, hs with
   | [v0], _ =>
     obtain ⟨base0, n0, o0, t0⟩ := h.arg 0 22 v0 rfl rfl
     obtain ⟨A0, l0, c0, rfl⟩ := okWide_slice Try.underlying22 o0
     obtain ⟨B0, d0, a, e0, x0, y0, r0, k0⟩ := typed_slice byteC ByteIn 1 Try.underlying22 (by kernel_rfl) (by decide) (fun _ => rfl) (fun m es h => byte9_typed h) t0
     obtain ⟨rfl, rfl, rfl⟩ : A0 = B0 ∧ l0 = a.length ∧ c0 = d0 := by simpa [Value.cells] using e0
     exact lawTwoProofs_walk A0 c0 a W (Nat.le_trans x0 y0) k0 r0)
#print axioms TwoProofs_holds
end Go.Proofs.Ytgeengkdgdjcjaa
