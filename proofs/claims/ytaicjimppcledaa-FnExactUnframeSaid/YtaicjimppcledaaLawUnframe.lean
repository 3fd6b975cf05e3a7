/-
  The program's Unframe returns what the reference's returns, for all arguments. No condition.
-/
import Derived.Test.YtaicjimppcledaaRows
import Derived.Test.YtaicjimppcledaaFacts
import Derived.Test.YtaicjimppcledaaSpecUnfr
import Derived.Test.YtaicjimppcledaaOwnMark
namespace Go.Proofs.Ytaicjimppcledaa
open Go.RowKit Go.WideShapes Go.ChangeAt
set_option linter.unusedVariables false
theorem unfGo_len (T : ByteArray) : ∀ (f p : Nat), (unfGo T f p).1.length ≤ f
  | 0, p => by simp [unfGo]
  | f + 1, p => by
    rw [unfGo]
    split
    · have := unfGo_len T f (fa3 T p).pos; simp; omega
    · simp
theorem unf_len (T : ByteArray) : (unf T).1.length ≤ 600 := by
  unfold unf
  split
  · exact unfGo_len T 600 0
  · simp
set_option maxHeartbeats 4000000 in
set_option maxRecDepth 100000 in
theorem lawUnframe_walk (T : ByteArray) (w : World) (hT : T.size ≤ maxLen) :
    Calls Try.prog 9 #[.string T] w fun e w' => e = .returned (.bool true) ∧ Ext w w' := by
  unfold maxLen at hT
  by_cases hs : 1048576 < T.size
  · go_enter Try.func9, Try.ntmps9
    go_wp2_with fail
    go_ret
    exact ⟨rfl, by go_grown⟩
  have hl := unf_len T
  have S := Lib.hid (specUnframe_any T)
  have I := Lib.hid (implUnframe_any T)
  generalize unf T = u at hl S I
  obtain ⟨l, p⟩ := u
  simp only at hl S I
  have hlb : l.length ≤ 1048576 := by omega
  have hlm : l.length ≤ 1000 := by omega
  go_enter Try.func9, Try.ntmps9
  go_wp2_with fail
  refine (S.out _ (by omega)).mono ?_
  rintro e w1 ⟨y, rfl, oy, he⟩
  obtain ⟨Ay, cy, rfl, ry⟩ := oy.reads
  clear oy
  go_wp2_with fail
  refine (I.out _ (by omega)).mono ?_
  rintro e w2 ⟨x, rfl, ox, h1⟩
  obtain ⟨Ax, cx, rfl, rx⟩ := ox.reads
  go_wp2_with fail
  refine (eqStringS_same Ax Ay cx cy l _ rx (ry.ext h1) hlb).mono ?_
  rintro e w3 ⟨rfl, h2⟩
  have ox3 : OwnS w1 w3 (.slice Ax l.length cx) l := ownsRow_ext ox h2
  have h3 := h1.next h2
  clear h1 h2 ox rx
  go_wp2_with fail
  refine (mark_own ox3 hlm h3).mono ?_
  rintro e w4 ⟨rfl, mx, h4⟩
  clear ox3 h3
  go_wp2_with fail
  refine (held_own mx hlm).mono ?_
  rintro e w5 ⟨rfl, h5⟩
  replace mx := mx.ext h5
  replace h4 := h4.next h5
  clear h5
  go_wp2_with fail
  refine (I.out _ (by omega)).mono ?_
  rintro e w6 ⟨z, rfl, oz, h5⟩
  obtain ⟨Az, cz, rfl, rz⟩ := oz.reads
  replace mx := mx.ext h5
  replace h4 := h4.next h5
  clear h5 oz
  go_wp2_with fail
  refine (eqStringS_same Az Ay cz cy l _ rz (ry.ext h4) hlb).mono ?_
  rintro e w7 ⟨rfl, h5⟩
  replace mx := mx.ext h5
  replace h4 := h4.next h5
  clear h5
  go_wp2_with fail
  refine (held_own mx hlm).mono ?_
  rintro e w8 ⟨rfl, h5⟩
  replace h4 := h4.next h5
  go_wp2_with fail
  go_ret
  exact ⟨rfl, he.next h4⟩

set_option maxRecDepth 100000 in
theorem Unframe_holds : Rows.FnExactUnframeSaid :=
  lawOver (p := Try.pinned) (c := Rows.fnExactUnframeRow) (s := Rows.fnExactUnframeSpec) 9 Try.f9 4
    own laidOut (by kernel_rfl) (by kernel_rfl) rfl rfl Try.underlying4
    (fun H ds h => by match ds, h with | [d0], _ => rfl)
    rfl rfl rfl rfl rfl rfl rfl ⟨rfl, rfl, rfl, rfl, rfl⟩ rfl rfl rfl rfl rfl (by kernel_rfl) Try.func9 (by kernel_rfl)
    (of_decide_eq_true (by kernel_rfl)) (by unfold Func.isWrapper; rw [if_neg (of_decide_eq_false (by kernel_rfl))]; exact ⟨rfl, rfl⟩)
    rfl rfl (fun _ _ => rfl) rfl rfl rfl rfl
    (fun os started H enc => ChangeSpec.witness6 (enc := enc) (C := Try.checked) false ⟨#[], #[.string ⟨#[]⟩], []⟩ 20 (by kernel_rfl) (by kernel_rfl) (by kernel_rfl) (by kernel_rfl))
    (fun W args h => by
      have hs := h.size
      obtain ⟨l⟩ := args
      match l, hs with
      | [v0], _ =>
        obtain ⟨base0, n0, o0, t0⟩ := h.arg 0 9 v0 rfl rfl
        obtain ⟨T, rfl⟩ := okWide_string Try.underlying9 o0
        obtain ⟨T', hT', hT⟩ := typed_string Try.underlying9 t0
        obtain rfl : T = T' := by simpa [Value.cells] using hT'
        exact lawUnframe_walk T W hT)
#print axioms Unframe_holds
end Go.Proofs.Ytaicjimppcledaa
