/-
  The program's Extract returns what the reference's returns, for all arguments. No condition.
-/
import Derived.Test.YtichegndafnjeaaGreatRows
import Derived.Test.YtichegndafnjeaaGreatArgs
import Derived.Test.YtichegndafnjeaaGreatConvPre
namespace Go.Proofs.YtichegndafnjeaaGreat
open Go.RowKit Go.WideShapes Go.ChangeAt
set_option linter.unusedVariables false

set_option maxHeartbeats 2000000 in
set_option maxRecDepth 100000 in
theorem lawExtract_walk (n : Int) (A : Option Addr) (c : Nat) (a : List ItemD) (w : World) (hr : SlN AnyB ItemD.In 22 w A a c) (ha : ∀ d ∈ a, d.Ok) :
    Calls Tryz.prog 3 #[.int .i64 n, .slice A a.length c] w fun e w' => e = .returned (.bool true) ∧ Ext w w' := by
  have Ha := Lib.hid ha; clear ha
  by_cases s1 : szL (a.length :: a.flatMap ItemD.lens) 1048576 < 0
  · go_enter Tryz.func3, Tryz.ntmps3
    go_wp2_with fail
    refine (szItemS_any A c a _ _ hr Ha.out (by decide) (by decide)).mono ?_
    rintro e w1 ⟨rfl, he⟩
    go_wp2_with fail
    go_ret
    exact ⟨rfl, he⟩
  have hla := szL_first (by decide) s1
  have hfa : ∀ x ∈ a, ∀ n ∈ x.lens, n ≤ 1048576 := fun x hx n hn => szL_fit (by decide) (by decide) s1 n (List.mem_cons_of_mem _ (List.mem_flatMap.2 ⟨x, hx, hn⟩))
  have Hr := Lib.hid hr; clear hr
  have Hfa := Lib.hid hfa; clear hfa
  have hfa := Hfa.out
  have S0 := Lib.hid (fun A c w h => specExtract_any n A c a w h Ha.out hla hfa)
  have I0 := Lib.hid (fun A c w h => implExtract_any n A c a w h Ha.out hla hfa)
  generalize exA n a = x at S0 I0
  generalize exB n a = y at S0 I0
  generalize exOk n a = ok at S0 I0
  have e1 : (ok != ok) = false := by simp
  go_enter Tryz.func3, Tryz.ntmps3
  go_wp2_with fail
  refine (szItemS_any A c a _ _ Hr.out Ha.out (by decide) (by decide)).mono ?_
  rintro e w1 ⟨rfl, he⟩
  go_wp2_with fail
  refine (toItemS_any A c a _ (SlN.ext ItemD.steady Hr.out he) hla Hfa.out).mono ?_
  rintro e w2 ⟨y0, rfl, _, b0, h1⟩
  replace he := he.next h1; clear h1
  go_wp2_with fail
  refine (S0.out _ _ _ (SlN.any ItemD.steady b0)).mono ?_
  rintro e w3 ⟨rfl, h1⟩
  replace he := he.next h1; clear h1 b0
  go_wp2_with fail
  refine (toItemS_any A c a _ (SlN.ext ItemD.steady Hr.out (Ext.new (Ext.new he _) _)) hla Hfa.out).mono ?_
  rintro e w4 ⟨x0, rfl, _, b0, h1⟩
  have k0 := ((Blk.new _ _ _).alloc _).ext h1
  have k1 := (Blk.new _ _ _).ext h1
  simp only [World.size_alloc] at k1
  replace he := (Ext.new (Ext.new he _) _).next h1; clear h1
  obtain ⟨g, hg⟩ : ∃ g, g = w3.heap.size := ⟨_, rfl⟩
  rw [← hg] at k0 k1
  rw [← hg]
  clear hg
  go_wp2_with fail
  refine (I0.out _ _ _ (SlN.any ItemD.steady b0)).mono ?_
  rintro e w5 ⟨rfl, h1⟩
  replace he := he.next h1; replace k0 := k0.ext h1; replace k1 := k1.ext h1; replace b0 := SlN.ext ItemD.steady b0 h1; clear h1
  obtain ⟨r0, m0⟩ := k0.rules
  obtain ⟨r1, m1⟩ := k1.rules
  have l0 := k0.lt
  have l1 := k1.lt
  go_wp2_with fail
  refine (eqPre_same x _).mono ?_
  rintro e w6 ⟨rfl, h1⟩
  have k2 := ((Blk.new _ _ _).alloc _).ext h1
  have k3 := (Blk.new _ _ _).ext h1
  simp only [World.size_alloc] at k3
  have h2 := (Ext.new (Ext.new (Below.refl w5.heap.size w5) _) _).next h1
  replace he := he.next h2; replace k0 := k0.ext h2; replace k1 := k1.ext h2; replace b0 := SlN.ext ItemD.steady b0 h2; clear h1 h2 r0 m0 r1 m1 l0 l1
  obtain ⟨r1, m1⟩ := k1.rules
  obtain ⟨r3, m3⟩ := k3.rules
  go_wp2_with fail
  refine (eqPre_same y _).mono ?_
  rintro e w7 ⟨rfl, h1⟩
  replace he := he.next h1; replace b0 := SlN.ext ItemD.steady b0 h1; clear h1 r1 m1 r3 m3 k0 k1 k2 k3
  go_wp2_with fail
  refine (toItemS_any A c a _ (SlN.ext ItemD.steady Hr.out he) hla Hfa.out).mono ?_
  rintro e w8 ⟨z0, rfl, _, b1, h1⟩
  replace he := he.next h1; replace b0 := SlN.ext ItemD.steady b0 h1; clear h1
  go_wp2_with fail
  refine (eqItemS_same _ _ _ _ a _ (SlN.any ItemD.steady b0) (SlN.any ItemD.steady b1) hla Hfa.out).mono ?_
  rintro e w9 ⟨rfl, h1⟩
  replace he := he.next h1
  go_wp2_with fail
  go_ret
  exact ⟨rfl, he⟩

set_option maxRecDepth 100000 in
theorem Extract_holds : Rows.FnExactExtractSaid :=
  lawOver (p := Tryz.pinned) (c := Rows.fnExactExtractRow) (s := Rows.fnExactExtractSpec) 3 Tryz.f3 4
    own laidOut (by kernel_rfl) (by kernel_rfl) rfl rfl Tryz.underlying4
    (fun H ds h => by match ds, h with | [d0, d1], _ => rfl)
    rfl rfl rfl rfl rfl rfl rfl ⟨rfl, rfl, rfl, rfl, rfl⟩ rfl rfl rfl rfl rfl (by kernel_rfl) Tryz.func3 (by kernel_rfl)
    (of_decide_eq_true (by kernel_rfl)) (by unfold Func.isWrapper; rw [if_neg (of_decide_eq_false (by kernel_rfl))]; exact ⟨rfl, rfl⟩)
    rfl rfl (fun _ _ => rfl) rfl rfl rfl rfl
    (fun os started H enc => ChangeSpec.witness6 (enc := enc) (C := Tryz.checked) false ⟨#[], #[.int .i64 0, .slice none 0 0], []⟩ 20 (by kernel_rfl) (by kernel_rfl) (by kernel_rfl) (by kernel_rfl))
    (fun W args h => by
      have hs := h.size
      obtain ⟨l⟩ := args
      match l, hs with
      | [v0, v1], _ =>
        obtain ⟨base0, n0, o0, t0⟩ := h.arg 0 3 v0 rfl rfl
        obtain ⟨base1, n1, o1, t1⟩ := h.arg 1 22 v1 rfl rfl
        obtain ⟨a0, rfl⟩ := okWide_int Tryz.underlying3 o0
        obtain ⟨A0, l0, c0, rfl⟩ := okWide_slice Tryz.underlying22 o1
        obtain ⟨B0, d0, a, e0, r0, k0⟩ := typed_sliceN ItemD.In ItemD.Ok 22 Tryz.underlying22 (by kernel_rfl) (by decide) (fun cs a h => ItemD.in_len h) (fun m es h => ItemD.typed h) t1
        obtain ⟨rfl, rfl, rfl⟩ : A0 = B0 ∧ l0 = a.length ∧ c0 = d0 := by simpa [Value.cells] using e0
        exact lawExtract_walk a0 A0 c0 a W r0 k0)
#print axioms Extract_holds
end Go.Proofs.YtichegndafnjeaaGreat
