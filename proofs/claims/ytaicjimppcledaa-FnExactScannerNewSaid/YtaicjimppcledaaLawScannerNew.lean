/-
  The program's ScannerNew returns what the reference's returns, for all arguments. No condition.
-/
import Derived.Test.YtaicjimppcledaaRows
import Derived.Test.YtaicjimppcledaaFacts
import Derived.Test.YtaicjimppcledaaScnNew
namespace Go.Proofs.Ytaicjimppcledaa
open Go.RowKit Go.WideShapes Go.ChangeAt
set_option linter.unusedVariables false
theorem newS_form (n : Int) (s : ByteArray) : ∃ (a : Int) (b : ByteArray) (h : HeadD), (newS n s).toArray = #[.int .i64 a, .string b, .int .i64 h.number, .int .i64 h.size, .string h.root, .int .i64 h.taken, .string h.takenRoot, .slice none 0 0, .int .i64 0, .slice none 0 0] := by
  obtain ⟨a, b, h, hf, _⟩ := newC_list n s
  exact ⟨a, b, h, by rw [newS, hf]; rfl⟩
set_option maxHeartbeats 4000000 in
set_option maxRecDepth 100000 in
theorem lawScannerNew_walk (n : Int) (T : ByteArray) (w : World) (hT : T.size ≤ maxLen) :
    Calls Try.prog 12 #[.int .i64 n, .string T] w fun e w' => e = .returned (.bool true) ∧ Ext w w' := by
  have HT := Lib.hid hT
  unfold maxLen at hT
  by_cases hs : 1048576 < T.size
  · go_enter Try.func12, Try.ntmps12
    go_wp2_with fail
    go_ret
    exact ⟨rfl, by go_grown⟩
  obtain ⟨a, b, h, hf⟩ := newS_form n T
  have Hf := Lib.hid hf
  obtain ⟨ok, hok⟩ : ∃ ok, ok = (inR n 1 32 && nameOk T) := ⟨_, rfl⟩
  have Ho := Lib.hid hok
  clear hf hok
  go_enter Try.func12, Try.ntmps12
  go_wp2_with fail
  refine (specScannerNew_any n T _ HT.out).mono ?_
  rintro e w1 ⟨he1, he⟩
  rw [Hf.out, ← Ho.out] at he1
  subst he1
  go_upto_region 4 with fail
  have b0 := Blk.new w1 77 #[.int .i64 a, .string b, .int .i64 h.number, .int .i64 h.size, .string h.root, .int .i64 h.taken, .string h.takenRoot, .slice none 0 0, .int .i64 0, .slice none 0 0]
  replace he := Ext.new he (.cells #[.int .i64 a, .string b, .int .i64 h.number, .int .i64 h.size, .string h.root, .int .i64 h.taken, .string h.takenRoot, .slice none 0 0, .int .i64 0, .slice none 0 0] 77)
  obtain ⟨g0, hg0⟩ : ∃ g0, g0 = w1.heap.size := ⟨_, rfl⟩
  rw [← hg0] at b0
  rw [← hg0]
  clear hg0
  generalize w1.alloc (.cells #[.int .i64 a, .string b, .int .i64 h.number, .int .i64 h.size, .string h.root, .int .i64 h.taken, .string h.takenRoot, .slice none 0 0, .int .i64 0, .slice none 0 0] 77) = w2 at *
  go_wp2_with fail
  refine (implScannerNew_any n T _ HT.out).mono ?_
  rintro e w3 ⟨he1, h1⟩
  rw [Hf.out, ← Ho.out] at he1
  subst he1
  replace he := he.next h1; replace b0 := b0.ext h1; clear h1
  go_upto_region 5 with fail
  have b1 := Blk.new w3 77 #[.int .i64 a, .string b, .int .i64 h.number, .int .i64 h.size, .string h.root, .int .i64 h.taken, .string h.takenRoot, .slice none 0 0, .int .i64 0, .slice none 0 0]
  replace he := Ext.new he (.cells #[.int .i64 a, .string b, .int .i64 h.number, .int .i64 h.size, .string h.root, .int .i64 h.taken, .string h.takenRoot, .slice none 0 0, .int .i64 0, .slice none 0 0] 77)
  replace b0 := b0.alloc (.cells #[.int .i64 a, .string b, .int .i64 h.number, .int .i64 h.size, .string h.root, .int .i64 h.taken, .string h.takenRoot, .slice none 0 0, .int .i64 0, .slice none 0 0] 77)
  obtain ⟨g1, hg1⟩ : ∃ g1, g1 = w3.heap.size := ⟨_, rfl⟩
  rw [← hg1] at b1
  rw [← hg1]
  clear hg1
  generalize w3.alloc (.cells #[.int .i64 a, .string b, .int .i64 h.number, .int .i64 h.size, .string h.root, .int .i64 h.taken, .string h.takenRoot, .slice none 0 0, .int .i64 0, .slice none 0 0] 77) = w4 at *
  obtain ⟨r0, f0⟩ := b0.rules
  obtain ⟨r1, f1⟩ := b1.rules
  go_wp2_with fail
  refine (eqScanner_nil a b h _).mono ?_
  rintro e w5 ⟨rfl, h1⟩
  replace he := he.next h1; replace b0 := b0.ext h1; replace b1 := b1.ext h1; clear h1 r0 f0 r1 f1
  obtain ⟨r0, f0⟩ := b0.rules
  obtain ⟨r1, f1⟩ := b1.rules
  cases ok
  all_goals
    go_wp2_with fail
    refine (markScanner_nil a b h 1 _).mono ?_
    rintro e w6 ⟨rfl, h1⟩
    replace he := he.next h1; replace b0 := b0.ext h1; replace b1 := b1.ext h1; clear h1 r0 f0 r1 f1
    obtain ⟨r0, f0⟩ := b0.rules
    obtain ⟨r1, f1⟩ := b1.rules
    go_wp2_with fail
    refine (heldScanner_nil a b h 1 _ (by decide)).mono ?_
    rintro e w7 ⟨rfl, h1⟩
    replace he := he.next h1; replace b0 := b0.ext h1; replace b1 := b1.ext h1; clear h1 r0 f0 r1 f1
    obtain ⟨r0, f0⟩ := b0.rules
    obtain ⟨r1, f1⟩ := b1.rules
    go_wp2_with fail
    refine (implScannerNew_any n T _ HT.out).mono ?_
    rintro e w8 ⟨he1, h1⟩
    rw [Hf.out, ← Ho.out] at he1
    subst he1
    replace he := he.next h1; replace b0 := b0.ext h1; replace b1 := b1.ext h1; clear h1 r0 f0 r1 f1
    go_upto_region 16 with fail
    have b2 := Blk.new w8 77 #[.int .i64 a, .string b, .int .i64 h.number, .int .i64 h.size, .string h.root, .int .i64 h.taken, .string h.takenRoot, .slice none 0 0, .int .i64 0, .slice none 0 0]
    replace he := Ext.new he (.cells #[.int .i64 a, .string b, .int .i64 h.number, .int .i64 h.size, .string h.root, .int .i64 h.taken, .string h.takenRoot, .slice none 0 0, .int .i64 0, .slice none 0 0] 77)
    replace b0 := b0.alloc (.cells #[.int .i64 a, .string b, .int .i64 h.number, .int .i64 h.size, .string h.root, .int .i64 h.taken, .string h.takenRoot, .slice none 0 0, .int .i64 0, .slice none 0 0] 77)
    replace b1 := b1.alloc (.cells #[.int .i64 a, .string b, .int .i64 h.number, .int .i64 h.size, .string h.root, .int .i64 h.taken, .string h.takenRoot, .slice none 0 0, .int .i64 0, .slice none 0 0] 77)
    obtain ⟨g2, hg2⟩ : ∃ g2, g2 = w8.heap.size := ⟨_, rfl⟩
    rw [← hg2] at b2
    rw [← hg2]
    clear hg2
    generalize w8.alloc (.cells #[.int .i64 a, .string b, .int .i64 h.number, .int .i64 h.size, .string h.root, .int .i64 h.taken, .string h.takenRoot, .slice none 0 0, .int .i64 0, .slice none 0 0] 77) = w9 at *
    obtain ⟨r0, f0⟩ := b0.rules
    obtain ⟨r1, f1⟩ := b1.rules
    obtain ⟨r2, f2⟩ := b2.rules
    go_wp2_with fail
    refine (eqScanner_nil a b h _).mono ?_
    rintro e w10 ⟨rfl, h1⟩
    replace he := he.next h1; replace b1 := b1.ext h1; clear h1 r0 f0 r1 f1 r2 f2
    obtain ⟨r1, f1⟩ := b1.rules
    go_wp2_with fail
    refine (heldScanner_nil a b h 1 _ (by decide)).mono ?_
    rintro e w11 ⟨rfl, h1⟩
    replace he := he.next h1
    go_wp2_with fail
    go_ret
    exact ⟨rfl, he⟩

set_option maxRecDepth 100000 in
theorem ScannerNew_holds : Rows.FnExactScannerNewSaid :=
  lawOver (p := Try.pinned) (c := Rows.fnExactScannerNewRow) (s := Rows.fnExactScannerNewSpec) 12 Try.f12 4
    own laidOut (by kernel_rfl) (by kernel_rfl) rfl rfl Try.underlying4
    (fun H ds h => by match ds, h with | [d0, d1], _ => rfl)
    rfl rfl rfl rfl rfl rfl rfl ⟨rfl, rfl, rfl, rfl, rfl⟩ rfl rfl rfl rfl rfl (by kernel_rfl) Try.func12 (by kernel_rfl)
    (of_decide_eq_true (by kernel_rfl)) (by unfold Func.isWrapper; rw [if_neg (of_decide_eq_false (by kernel_rfl))]; exact ⟨rfl, rfl⟩)
    rfl rfl (fun _ _ => rfl) rfl rfl rfl rfl
    (fun os started H enc => ChangeSpec.witness6 (enc := enc) (C := Try.checked) false ⟨#[], #[.int .i64 0, .string ⟨#[]⟩], []⟩ 20 (by kernel_rfl) (by kernel_rfl) (by kernel_rfl) (by kernel_rfl))
    (fun W args h => by
      have hs := h.size
      obtain ⟨l⟩ := args
      match l, hs with
      | [v0, v1], _ =>
        obtain ⟨base0, n0, o0, t0⟩ := h.arg 0 3 v0 rfl rfl
        obtain ⟨base1, n1, o1, t1⟩ := h.arg 1 9 v1 rfl rfl
        obtain ⟨n, rfl⟩ := okWide_int Try.underlying3 o0
        obtain ⟨T, rfl⟩ := okWide_string Try.underlying9 o1
        obtain ⟨T', hT', hT⟩ := typed_string Try.underlying9 t1
        obtain rfl : T = T' := by simpa [Value.cells] using hT'
        exact lawScannerNew_walk n T W hT)
#print axioms ScannerNew_holds
end Go.Proofs.Ytaicjimppcledaa
