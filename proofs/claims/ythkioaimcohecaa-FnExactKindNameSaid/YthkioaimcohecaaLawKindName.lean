/-
  The program's KindName returns what the reference's returns, for every int. No condition.
-/
import Derived.Test.YthkioaimcohecaaRows
import Derived.Test.YthkioaimcohecaaFacts
import Derived.Test.YthkioaimcohecaaArgs
import Derived.Test.YthkioaimcohecaaKind
namespace Go.Proofs.Ythkioaimcohecaa
open Go.RowKit Go.WideShapes Go.ChangeAt
set_option maxRecDepth 100000 in
theorem kindName_holds : Rows.FnExactKindNameSaid :=
  lawOver (p := Try.pinned) (c := Rows.fnExactKindNameRow) (s := Rows.fnExactKindNameSpec) 3 Try.f3 4
    own laidOut (by kernel_rfl) (by kernel_rfl) rfl rfl Try.underlying4
    (fun H ds h => by match ds, h with | [d0], _ => rfl)
    rfl rfl rfl rfl rfl rfl rfl ⟨rfl, rfl, rfl, rfl, rfl⟩ rfl rfl rfl rfl rfl (by kernel_rfl) Try.func3 (by kernel_rfl)
    (of_decide_eq_true (by kernel_rfl)) (by unfold Func.isWrapper; rw [if_neg (of_decide_eq_false (by kernel_rfl))]; exact ⟨rfl, rfl⟩)
    rfl rfl (fun _ _ => rfl) rfl rfl rfl rfl
    (fun os started H enc => ChangeSpec.witness6 (enc := enc) (C := Try.checked) false ⟨#[], #[.int .i64 0], []⟩ 20 (by kernel_rfl) (by kernel_rfl) (by kernel_rfl) (by kernel_rfl))
    (fun W args h => by
      have hs := h.size
      obtain ⟨l⟩ := args
      match l, hs with
      | [v0], _ =>
        obtain ⟨base0, n0, o0, t0⟩ := h.arg 0 3 v0 rfl rfl
        obtain ⟨a0, rfl⟩ := okWide_int Try.underlying3 o0
        exact lawKindName_walk a0 W)
#print axioms kindName_holds
end Go.Proofs.Ythkioaimcohecaa
