/-
  The program's ReadHead returns what the reference's returns, for all arguments. No condition.
-/
import Derived.Test.YtaicjimppcledaaRows
import Derived.Test.YtaicjimppcledaaFacts
import Derived.Test.YtaicjimppcledaaReadHd
import Derived.Test.YtaicjimppcledaaConvHead
namespace Go.Proofs.Ytaicjimppcledaa
open Go.RowKit Go.WideShapes Go.ChangeAt
set_option linter.unusedVariables false
theorem hrRes_eq (ok : Bool) (d : HeadD) : hrRes ok d = .returned (.tuple #[.agg #[.int .i64 (hrOut ok d).number, .int .i64 (hrOut ok d).size, .string (hrOut ok d).root, .int .i64 (hrOut ok d).taken, .string (hrOut ok d).takenRoot], .bool ok]) := rfl
set_option maxHeartbeats 1000000 in
set_option maxRecDepth 100000 in
theorem lawReadHead_walk (n : Int) (T : ByteArray) (w : World) (hT : T.size ≤ maxLen) :
    Calls Try.prog 10 #[.int .i64 n, .string T] w fun e w' => e = .returned (.bool true) ∧ Ext w w' := by
  unfold maxLen at hT
  by_cases hs : 1048576 < T.size
  · go_enter Try.func10, Try.ntmps10
    go_wp2_with fail
    go_ret
    exact ⟨rfl, by go_grown⟩
  · go_enter Try.func10, Try.ntmps10
    go_wp2_with fail
    have he := Below.refl w.heap.size w
    refine (specReadHead_any n T _ (by omega)).mono ?_
    rintro e w1 ⟨he1, h1⟩
    rw [hrRes_eq] at he1
    subst he1
    replace he := Ext.next he h1; clear h1
    obtain ⟨d, hd⟩ : ∃ d, d = hrOut (hrSpec n T) (hrD n T) := ⟨_, rfl⟩
    obtain ⟨ok, hok⟩ : ∃ ok, ok = hrSpec n T := ⟨_, rfl⟩
    rw [← hd, ← hok]
    have Hd := Lib.hid hd
    have Ho := Lib.hid hok
    clear hd hok
    go_wp2_with fail
    have b0 := Blk.new w1 38 #[.int .i64 d.number, .int .i64 d.size, .string d.root, .int .i64 d.taken, .string d.takenRoot]
    replace he := he.new (.cells #[.int .i64 d.number, .int .i64 d.size, .string d.root, .int .i64 d.taken, .string d.takenRoot] 38)
    refine (implReadHead_any n T _ (by omega)).mono ?_
    rintro e w2 ⟨he1, h1⟩
    rw [hr_same, hrRes_eq, ← Hd.out, ← Ho.out] at he1
    subst he1
    replace he := he.next h1; replace b0 := b0.ext h1; clear h1
    go_upto_region 5 with fail
    have b1 := Blk.new w2 38 #[.int .i64 d.number, .int .i64 d.size, .string d.root, .int .i64 d.taken, .string d.takenRoot]
    replace he := he.new (.cells #[.int .i64 d.number, .int .i64 d.size, .string d.root, .int .i64 d.taken, .string d.takenRoot] 38)
    replace b0 := b0.alloc (.cells #[.int .i64 d.number, .int .i64 d.size, .string d.root, .int .i64 d.taken, .string d.takenRoot] 38)
    generalize w2.alloc (.cells #[.int .i64 d.number, .int .i64 d.size, .string d.root, .int .i64 d.taken, .string d.takenRoot] 38) = w3 at *
    obtain ⟨hc, hf⟩ := b0.rules
    obtain ⟨kc, kf⟩ := b1.rules
    go_wp2_with fail
    refine (eqHead_same d _).mono ?_
    rintro e w4 ⟨rfl, h1⟩
    replace he := he.next h1
    cases ok
    all_goals
      go_wp2_with fail
      go_ret
      exact ⟨rfl, he⟩

set_option maxRecDepth 100000 in
theorem ReadHead_holds : Rows.FnExactReadHeadSaid :=
  lawOver (p := Try.pinned) (c := Rows.fnExactReadHeadRow) (s := Rows.fnExactReadHeadSpec) 10 Try.f10 4
    own laidOut (by kernel_rfl) (by kernel_rfl) rfl rfl Try.underlying4
    (fun H ds h => by match ds, h with | [d0, d1], _ => rfl)
    rfl rfl rfl rfl rfl rfl rfl ⟨rfl, rfl, rfl, rfl, rfl⟩ rfl rfl rfl rfl rfl (by kernel_rfl) Try.func10 (by kernel_rfl)
    (of_decide_eq_true (by kernel_rfl)) (by unfold Func.isWrapper; rw [if_neg (of_decide_eq_false (by kernel_rfl))]; exact ⟨rfl, rfl⟩)
    rfl rfl (fun _ _ => rfl) rfl rfl rfl rfl
    (fun os started H enc => ChangeSpec.witness6 (enc := enc) (C := Try.checked) false ⟨#[], #[.int .i64 0, .string ⟨#[]⟩], []⟩ 20 (by kernel_rfl) (by kernel_rfl) (by kernel_rfl) (by kernel_rfl))
    (fun W args h => by
      have hs := h.size
      obtain ⟨l⟩ := args
      match l, hs with
      | [v0, v1], _ =>
        obtain ⟨base0, n0, o0, t0⟩ := h.arg 0 3 v0 rfl rfl
        obtain ⟨base1, n1, o1, t1⟩ := h.arg 1 9 v1 rfl rfl
        obtain ⟨n, rfl⟩ := okWide_int Try.underlying3 o0
        obtain ⟨T, rfl⟩ := okWide_string Try.underlying9 o1
        obtain ⟨T', hT', hT⟩ := typed_string Try.underlying9 t1
        obtain rfl : T = T' := by simpa [Value.cells] using hT'
        exact lawReadHead_walk n T W hT)
#print axioms ReadHead_holds
end Go.Proofs.Ytaicjimppcledaa
