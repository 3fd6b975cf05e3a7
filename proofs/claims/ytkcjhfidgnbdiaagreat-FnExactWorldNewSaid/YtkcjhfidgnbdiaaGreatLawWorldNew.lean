/-
  The program's WorldNew returns what the reference's returns, for all arguments. No condition.
-/
import Derived.Test.YtkcjhfidgnbdiaaGreatRows
import Derived.Test.YtkcjhfidgnbdiaaGreatSmall
import Derived.Test.YtkcjhfidgnbdiaaGreatWorldLw
import Derived.Test.YtkcjhfidgnbdiaaGreatWorldFx
namespace Go.Proofs.YtkcjhfidgnbdiaaGreat
set_option linter.unusedSimpArgs false
open Go.RowKit Go.WideShapes Go.ChangeAt
set_option linter.unusedVariables false

set_option maxRecDepth 100000 in
theorem WorldNew_holds : Rows.FnExactWorldNewSaid :=
  lawOver (p := Tryz.pinned) (c := Rows.fnExactWorldNewRow) (s := Rows.fnExactWorldNewSpec) 6 Tryz.f6 4
    own laidOut (by kernel_rfl) (by kernel_rfl) rfl rfl Tryz.underlying4
    (fun H ds h => by match ds, h with | [d0, d1], _ => rfl)
    rfl rfl rfl rfl rfl rfl rfl ⟨rfl, rfl, rfl, rfl, rfl⟩ rfl rfl rfl rfl rfl (by kernel_rfl) Tryz.func6 wnFacts
    (of_decide_eq_true (by kernel_rfl)) (by unfold Func.isWrapper; rw [if_neg (of_decide_eq_false (by kernel_rfl))]; exact ⟨rfl, rfl⟩)
    rfl rfl (fun _ _ => rfl) rfl rfl rfl rfl
    (fun os started H enc => ChangeSpec.witness6 (enc := enc) (C := Tryz.checked) false ⟨#[], #[.int .i64 0, .slice none 0 0], []⟩ 20 (by kernel_rfl) (by kernel_rfl) (by kernel_rfl) (by kernel_rfl))
    (fun W args h => by
      have hs := h.size
      obtain ⟨l⟩ := args
      match l, hs with
      | [v0, v1], _ =>
        obtain ⟨base0, n0, o0, t0⟩ := h.arg 0 3 v0 rfl rfl
        obtain ⟨base1, n1, o1, t1⟩ := h.arg 1 29 v1 rfl rfl
        obtain ⟨n, rfl⟩ := okWide_int Tryz.underlying3 o0
        obtain ⟨A0, l0, c0, rfl⟩ := okWide_slice Tryz.underlying29 o1
        obtain ⟨B0, d0, a, e0, s0, k0⟩ := typed_sliceF sone (fun s => s.size ≤ maxLen) 1 Tryz.underlying29 (by kernel_rfl) (by decide) sone_length (fun m es h => typed_string Tryz.underlying9 h) t1
        obtain ⟨rfl, rfl, rfl⟩ : A0 = B0 ∧ l0 = a.length ∧ c0 = d0 := by simpa [Value.cells] using e0
        exact lawWorldNew_walk n A0 c0 a W s0 k0)
#print axioms WorldNew_holds
end Go.Proofs.YtkcjhfidgnbdiaaGreat
