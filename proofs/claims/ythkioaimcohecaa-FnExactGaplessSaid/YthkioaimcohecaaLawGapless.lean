/-
  The program's Gapless returns what the reference's returns, for all arguments. No condition.
-/
import Derived.Test.YthkioaimcohecaaRows
import Derived.Test.YthkioaimcohecaaFacts
import Derived.Test.YthkioaimcohecaaGapless
import Derived.Test.YthkioaimcohecaaConvGiven
namespace Go.Proofs.Ythkioaimcohecaa
open Go.RowKit Go.WideShapes Go.ChangeAt
set_option linter.unusedVariables false

set_option maxHeartbeats 1000000 in
theorem lawGapless_walk (A : Option Addr) (c : Nat) (a : List GivenD) (who : Int) (topic : ByteArray) (w : World) (hr : ReadsL w w.heap.size GivenD.cells 7 A a) (ha : ∀ d ∈ a, d.Ok) (hca : a.length ≤ c) (hc : c ≤ maxLen) (ht : topic.size ≤ maxLen) :
    Calls Try.prog 9 #[.slice A a.length c, .int .i64 who, .string topic] w fun e w' => e = .returned (.bool true) ∧ Ext w w' := by
  have Ha := Lib.hid ha; clear ha
  unfold maxLen at ht
  by_cases s0 : 1048576 < topic.size
  · go_enter Try.func9, Try.ntmps9
    go_wp2_with fail
    go_ret
    exact ⟨rfl, Below.refl _ _⟩
  by_cases s1 : szL (a.length :: a.flatMap GivenD.lens) 1048576 < 0
  · go_enter Try.func9, Try.ntmps9
    go_wp2_with fail
    refine (szGivenS_any A c a _ _ hr Ha.out (by omega) (by decide) (by decide)).mono ?_
    rintro e w1 ⟨rfl, he⟩
    go_wp2_with fail
    go_ret
    exact ⟨rfl, he⟩
  have hla := szL_first (by decide) s1
  go_enter Try.func9, Try.ntmps9
  go_wp2_with fail
  refine (szGivenS_any A c a _ _ hr Ha.out (by omega) (by decide) (by decide)).mono ?_
  rintro e w1 ⟨rfl, he⟩
  go_wp2_with fail
  refine (toGivenS_any A c a _ (hr.ext he) hla).mono ?_
  rintro e w36 ⟨y0, rfl, _, b0, h1⟩
  replace he := he.next h1; clear h1
  go_wp2_with fail
  refine (specGapless_any _ _ a who topic _ (b0.readsL GivenD.cells_length) hla).mono ?_
  rintro e w37 ⟨rfl, h1⟩
  replace he := he.next h1; clear h1
  go_wp2_with fail
  clear b0
  refine (toGivenS_any A c a _ (hr.ext he) hla).mono ?_
  rintro e w39 ⟨x0, rfl, _, b0, h1⟩
  replace he := he.next h1; clear h1
  go_wp2_with fail
  refine (implGapless_any _ _ a who topic _ (b0.readsL GivenD.cells_length) hla).mono ?_
  rintro e w40 ⟨rfl, h1⟩
  replace b0 := b0.ext h1; replace he := he.next h1; clear h1
  go_wp2_with fail
  refine (toGivenS_any A c a _ (hr.ext he) hla).mono ?_
  rintro e w41 ⟨z0, rfl, _, b1, h1⟩
  replace b0 := b0.ext h1; replace he := he.next h1; clear h1
  go_wp2_with fail
  refine (eqGivenS_same _ _ _ _ a _ (b0.readsL GivenD.cells_length) (b1.readsL GivenD.cells_length) hla).mono ?_
  rintro e w42 ⟨rfl, h1⟩
  replace he := he.next h1; clear h1
  go_wp2_with fail
  go_ret
  exact ⟨rfl, he⟩

set_option maxRecDepth 100000 in
theorem Gapless_holds : Rows.FnExactGaplessSaid :=
  lawOver (p := Try.pinned) (c := Rows.fnExactGaplessRow) (s := Rows.fnExactGaplessSpec) 9 Try.f9 4
    own laidOut (by kernel_rfl) (by kernel_rfl) rfl rfl Try.underlying4
    (fun H ds h => by match ds, h with | [d0, d1, d2], _ => rfl)
    rfl rfl rfl rfl rfl rfl rfl ⟨rfl, rfl, rfl, rfl, rfl⟩ rfl rfl rfl rfl rfl (by kernel_rfl) Try.func9 (by kernel_rfl)
    (of_decide_eq_true (by kernel_rfl)) (by unfold Func.isWrapper; rw [if_neg (of_decide_eq_false (by kernel_rfl))]; exact ⟨rfl, rfl⟩)
    rfl rfl (fun _ _ => rfl) rfl rfl rfl rfl
    (fun os started H enc => ChangeSpec.witness6 (enc := enc) (C := Try.checked) false ⟨#[], #[.slice none 0 0, .int .i64 0, .string ⟨#[]⟩], []⟩ 20 (by kernel_rfl) (by kernel_rfl) (by kernel_rfl) (by kernel_rfl))
    (fun W args h => by
      have hs := h.size
      obtain ⟨l⟩ := args
      match l, hs with
      | [v0, v1, v2], _ =>
        obtain ⟨base0, n0, o0, t0⟩ := h.arg 0 57 v0 rfl rfl
        obtain ⟨base1, n1, o1, t1⟩ := h.arg 1 3 v1 rfl rfl
        obtain ⟨base2, n2, o2, t2⟩ := h.arg 2 9 v2 rfl rfl
        obtain ⟨A0, l0, c0, rfl⟩ := okWide_slice Try.underlying57 o0
        obtain ⟨B0, d0, a, e0, x0, y0, r0, k0⟩ := typed_slice GivenD.cells GivenD.Ok 7 Try.underlying57 (by kernel_rfl) (by decide) GivenD.cells_length (fun m es h => GivenD.typed h) t0
        obtain ⟨rfl, rfl, rfl⟩ : A0 = B0 ∧ l0 = a.length ∧ c0 = d0 := by simpa [Value.cells] using e0
        obtain ⟨a1, rfl⟩ := okWide_int Try.underlying3 o1
        obtain ⟨a2, rfl⟩ := okWide_string Try.underlying9 o2
        obtain ⟨s2, e2, h2⟩ := typed_string Try.underlying9 t2
        obtain rfl : a2 = s2 := by simpa [Value.cells] using e2
        exact lawGapless_walk A0 c0 a a1 a2 W r0 k0 x0 y0 h2)
#print axioms Gapless_holds
end Go.Proofs.Ythkioaimcohecaa
