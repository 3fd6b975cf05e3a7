/-
  The program's MoveOk returns what the reference's returns, for all arguments. No condition.
-/
import Derived.Test.YthkioaimcohecaaRows
import Derived.Test.YthkioaimcohecaaFacts
import Derived.Test.YthkioaimcohecaaMoves
namespace Go.Proofs.Ythkioaimcohecaa
open Go.RowKit Go.WideShapes Go.ChangeAt
set_option linter.unusedVariables false
theorem lawMoveOk_walk (n : Int) (d : MoveD) (w : World) (hd : d.Ok) :
    Calls Try.prog 4 #[.int .i64 n, .agg #[.int .i64 d.kind, .int .i64 d.who, .int .i64 d.other, .string d.topic, .int .i64 d.index, .string d.text]] w fun e w' => e = .returned (.bool true) ∧ Ext w w' := by
  by_cases c : szL d.lens 1048576 < 0
  all_goals
    go_enter Try.func4, Try.ntmps4
    go_wp2_with fail
    have hb := Blk.new w 25 #[.int .i64 d.kind, .int .i64 d.who, .int .i64 d.other, .string d.topic, .int .i64 d.index, .string d.text]
    have he := Ext.new (Below.refl w.heap.size w) (.cells #[.int .i64 d.kind, .int .i64 d.who, .int .i64 d.other, .string d.topic, .int .i64 d.index, .string d.text] 25)
    refine (szMove_any d _ _ hd (by decide) (by decide)).mono ?_
    rintro e w1 ⟨rfl, h1⟩
    replace hb := hb.ext h1; replace he := he.next h1; clear h1; obtain ⟨hc, hf⟩ := hb.rules
    go_wp2_with fail
  · go_ret
    exact ⟨rfl, he⟩
  · refine (toMove_any d _).mono ?_
    rintro e w2 ⟨rfl, h1⟩
    replace hb := hb.ext h1; replace he := he.next h1; clear h1 hc hf; obtain ⟨hc, hf⟩ := hb.rules
    go_wp2_with fail
    refine (specMoveOk_any n d _).mono ?_
    rintro e w3 ⟨rfl, h1⟩
    replace hb := hb.ext h1; replace he := he.next h1; clear h1 hc hf; obtain ⟨hc, hf⟩ := hb.rules
    go_wp2_with fail
    refine (toMove_any d _).mono ?_
    rintro e w4 ⟨rfl, h1⟩
    replace hb := hb.ext h1; replace he := he.next h1; clear h1 hc hf; obtain ⟨hc, hf⟩ := hb.rules
    go_wp2_with fail
    refine (MoveOk_any n d _).mono ?_
    rintro e w5 ⟨rfl, h1⟩
    replace hb := hb.ext h1; replace he := he.next h1; clear h1 hc hf; obtain ⟨hc, hf⟩ := hb.rules
    go_wp2_with fail
    go_ret
    exact ⟨rfl, he⟩

set_option maxRecDepth 100000 in
theorem MoveOk_holds : Rows.FnExactMoveOkSaid :=
  lawOver (p := Try.pinned) (c := Rows.fnExactMoveOkRow) (s := Rows.fnExactMoveOkSpec) 4 Try.f4 4
    own laidOut (by kernel_rfl) (by kernel_rfl) rfl rfl Try.underlying4
    (fun H ds h => by match ds, h with | [d0, d1], _ => rfl)
    rfl rfl rfl rfl rfl rfl rfl ⟨rfl, rfl, rfl, rfl, rfl⟩ rfl rfl rfl rfl rfl (by kernel_rfl) Try.func4 (by kernel_rfl)
    (of_decide_eq_true (by kernel_rfl)) (by unfold Func.isWrapper; rw [if_neg (of_decide_eq_false (by kernel_rfl))]; exact ⟨rfl, rfl⟩)
    rfl rfl (fun _ _ => rfl) rfl rfl rfl rfl
    (fun os started H enc => ChangeSpec.witness6 (enc := enc) (C := Try.checked) false ⟨#[], #[.int .i64 0, .agg #[.int .i64 0, .int .i64 0, .int .i64 0, .string ⟨#[]⟩, .int .i64 0, .string ⟨#[]⟩]], []⟩ 20 (by kernel_rfl) (by kernel_rfl) (by kernel_rfl) (by kernel_rfl))
    (fun W args h => by
      have hs := h.size
      obtain ⟨l⟩ := args
      match l, hs with
      | [v0, v1], _ =>
        obtain ⟨base0, n0, o0, t0⟩ := h.arg 0 3 v0 rfl rfl
        obtain ⟨base1, n1, o1, t1⟩ := h.arg 1 25 v1 rfl rfl
        obtain ⟨a0, rfl⟩ := okWide_int Try.underlying3 o0
        obtain ⟨cs1, rfl, _⟩ := okWide_struct Try.underlying25 o1
        obtain ⟨d, hd, hk⟩ := MoveD.typed t1
        obtain rfl : cs1 = d.cells.toArray := by have h2 : cs1.toList = d.cells := hd; rw [← h2]
        exact lawMoveOk_walk a0 d W hk)
#print axioms MoveOk_holds
end Go.Proofs.Ythkioaimcohecaa
