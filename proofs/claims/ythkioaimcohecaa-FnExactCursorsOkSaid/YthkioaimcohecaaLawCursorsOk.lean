/-
  The program's CursorsOk returns what the reference's returns, for all arguments. No condition.
-/
import Derived.Test.YthkioaimcohecaaRows
import Derived.Test.YthkioaimcohecaaFacts
import Derived.Test.YthkioaimcohecaaCursors
import Derived.Test.YthkioaimcohecaaConvCursor
namespace Go.Proofs.Ythkioaimcohecaa
open Go.RowKit Go.WideShapes Go.ChangeAt
set_option linter.unusedVariables false

set_option maxHeartbeats 1000000 in
theorem lawCursorsOk_walk (A : Option Addr) (c : Nat) (a : List CursorD) (size : Int) (w : World) (hr : ReadsL w w.heap.size CursorD.cells 3 A a) (ha : ∀ d ∈ a, d.Ok) (hca : a.length ≤ c) (hc : c ≤ maxLen) :
    Calls Try.prog 7 #[.slice A a.length c, .int .i64 size] w fun e w' => e = .returned (.bool true) ∧ Ext w w' := by
  have Ha := Lib.hid ha; clear ha
  by_cases s1 : szL (a.length :: a.flatMap CursorD.lens) 1048576 < 0
  · go_enter Try.func7, Try.ntmps7
    go_wp2_with fail
    refine (szCursorS_any A c a _ _ hr Ha.out (by omega) (by decide) (by decide)).mono ?_
    rintro e w1 ⟨rfl, he⟩
    go_wp2_with fail
    go_ret
    exact ⟨rfl, he⟩
  have hla := szL_first (by decide) s1
  go_enter Try.func7, Try.ntmps7
  go_wp2_with fail
  refine (szCursorS_any A c a _ _ hr Ha.out (by omega) (by decide) (by decide)).mono ?_
  rintro e w1 ⟨rfl, he⟩
  go_wp2_with fail
  refine (toCursorS_any A c a _ (hr.ext he) hla).mono ?_
  rintro e w30 ⟨y0, rfl, _, b0, h1⟩
  replace he := he.next h1; clear h1
  go_wp2_with fail
  refine (specCursorsOk_any _ _ a size _ (b0.readsL CursorD.cells_length) Ha.out hla).mono ?_
  rintro e w31 ⟨rfl, h1⟩
  replace he := he.next h1; clear h1
  go_wp2_with fail
  clear b0
  refine (toCursorS_any A c a _ (hr.ext he) hla).mono ?_
  rintro e w33 ⟨x0, rfl, _, b0, h1⟩
  replace he := he.next h1; clear h1
  go_wp2_with fail
  refine (CursorsOk_any _ _ a size _ (b0.readsL CursorD.cells_length) Ha.out hla).mono ?_
  rintro e w34 ⟨rfl, h1⟩
  replace b0 := b0.ext h1; replace he := he.next h1; clear h1
  go_wp2_with fail
  refine (toCursorS_any A c a _ (hr.ext he) hla).mono ?_
  rintro e w35 ⟨z0, rfl, _, b1, h1⟩
  replace b0 := b0.ext h1; replace he := he.next h1; clear h1
  go_wp2_with fail
  refine (eqCursorS_same _ _ _ _ a _ (b0.readsL CursorD.cells_length) (b1.readsL CursorD.cells_length) hla).mono ?_
  rintro e w36 ⟨rfl, h1⟩
  replace he := he.next h1; clear h1
  go_wp2_with fail
  go_ret
  exact ⟨rfl, he⟩

set_option maxRecDepth 100000 in
theorem CursorsOk_holds : Rows.FnExactCursorsOkSaid :=
  lawOver (p := Try.pinned) (c := Rows.fnExactCursorsOkRow) (s := Rows.fnExactCursorsOkSpec) 7 Try.f7 4
    own laidOut (by kernel_rfl) (by kernel_rfl) rfl rfl Try.underlying4
    (fun H ds h => by match ds, h with | [d0, d1], _ => rfl)
    rfl rfl rfl rfl rfl rfl rfl ⟨rfl, rfl, rfl, rfl, rfl⟩ rfl rfl rfl rfl rfl (by kernel_rfl) Try.func7 (by kernel_rfl)
    (of_decide_eq_true (by kernel_rfl)) (by unfold Func.isWrapper; rw [if_neg (of_decide_eq_false (by kernel_rfl))]; exact ⟨rfl, rfl⟩)
    rfl rfl (fun _ _ => rfl) rfl rfl rfl rfl
    (fun os started H enc => ChangeSpec.witness6 (enc := enc) (C := Try.checked) false ⟨#[], #[.slice none 0 0, .int .i64 0], []⟩ 20 (by kernel_rfl) (by kernel_rfl) (by kernel_rfl) (by kernel_rfl))
    (fun W args h => by
      have hs := h.size
      obtain ⟨l⟩ := args
      match l, hs with
      | [v0, v1], _ =>
        obtain ⟨base0, n0, o0, t0⟩ := h.arg 0 44 v0 rfl rfl
        obtain ⟨base1, n1, o1, t1⟩ := h.arg 1 3 v1 rfl rfl
        obtain ⟨A0, l0, c0, rfl⟩ := okWide_slice Try.underlying44 o0
        obtain ⟨B0, d0, a, e0, x0, y0, r0, k0⟩ := typed_slice CursorD.cells CursorD.Ok 3 Try.underlying44 (by kernel_rfl) (by decide) CursorD.cells_length (fun m es h => CursorD.typed h) t0
        obtain ⟨rfl, rfl, rfl⟩ : A0 = B0 ∧ l0 = a.length ∧ c0 = d0 := by simpa [Value.cells] using e0
        obtain ⟨a1, rfl⟩ := okWide_int Try.underlying3 o1
        exact lawCursorsOk_walk A0 c0 a a1 W r0 k0 x0 y0)
#print axioms CursorsOk_holds
end Go.Proofs.Ythkioaimcohecaa
