/-
  The program's Meet returns what the reference's returns, for all arguments. No condition.
-/
import Derived.Test.YtcpfgldcijkhlaaRows
import Derived.Test.YtcpfgldcijkhlaaFacts
import Derived.Test.YtcpfgldcijkhlaaMeetSpec
import Derived.Test.YtcpfgldcijkhlaaConvPre
namespace Go.Proofs.Ytcpfgldcijkhlaa
open Go.RowKit Go.WideShapes Go.ChangeAt
set_option linter.unusedVariables false

set_option maxHeartbeats 2000000 in
set_option maxRecDepth 100000 in
theorem lawMeet_walk (n : Int) (A : Option Addr) (c : Nat) (a : List PreD) (w : World) (hr : ReadsL w w.heap.size PreD.cells 2 A a) (ha : ∀ d ∈ a, d.Ok) (hca : a.length ≤ c) (hc : c ≤ maxLen) :
    Calls Try.prog 7 #[.int .i64 n, .slice A a.length c] w fun e w' => e = .returned (.bool true) ∧ Ext w w' := by
  have Ha := Lib.hid ha; clear ha
  by_cases s1 : szL (a.length :: a.flatMap PreD.lens) 1048576 < 0
  · go_enter Try.func7, Try.ntmps7
    go_wp2_with fail
    refine (szPreS_any A c a _ _ hr Ha.out (by omega) (by decide) (by decide)).mono ?_
    rintro e w1 ⟨rfl, he⟩
    go_wp2_with fail
    go_ret
    exact ⟨rfl, he⟩
  have hla := szL_first (by decide) s1
  have S0 := Lib.hid (fun A c w h => specMeet_any n A c a w h Ha.out hla)
  have I0 := Lib.hid (fun A c w h => implMeet_any n A c a w h Ha.out hla)
  generalize meetA n a = x at S0 I0
  generalize meetB n a = y at S0 I0
  generalize meetOk n a = ok at S0 I0
  have e1 : (ok != ok) = false := by simp
  go_enter Try.func7, Try.ntmps7
  go_wp2_with fail
  refine (szPreS_any A c a _ _ hr Ha.out (by omega) (by decide) (by decide)).mono ?_
  rintro e w1 ⟨rfl, he⟩
  go_wp2_with fail
  refine (toPreS_any A c a _ (hr.ext he) hla).mono ?_
  rintro e w2 ⟨y0, rfl, _, b0, h1⟩
  replace he := he.next h1; clear h1
  go_wp2_with fail
  refine (S0.out _ _ _ (b0.readsL PreD.cells_length)).mono ?_
  rintro e w3 ⟨rfl, h1⟩
  replace he := he.next h1; clear h1 b0
  go_wp2_with fail
  refine (toPreS_any A c a _ (hr.ext (Ext.new (Ext.new he _) _)) hla).mono ?_
  rintro e w4 ⟨x0, rfl, _, b0, h1⟩
  have k0 := ((Blk.new _ _ _).alloc _).ext h1
  have k1 := (Blk.new _ _ _).ext h1
  simp only [World.size_alloc] at k1
  replace he := (Ext.new (Ext.new he _) _).next h1; clear h1
  obtain ⟨g, hg⟩ : ∃ g, g = w3.heap.size := ⟨_, rfl⟩
  rw [← hg] at k0 k1
  rw [← hg]
  clear hg
  go_wp2_with fail
  refine (I0.out _ _ _ (b0.readsL PreD.cells_length)).mono ?_
  rintro e w5 ⟨rfl, h1⟩
  replace he := he.next h1; replace k0 := k0.ext h1; replace k1 := k1.ext h1; replace b0 := b0.ext h1; clear h1
  obtain ⟨r0, m0⟩ := k0.rules
  obtain ⟨r1, m1⟩ := k1.rules
  have l0 := k0.lt
  have l1 := k1.lt
  go_wp2_with fail
  refine (eqPre_same x _).mono ?_
  rintro e w6 ⟨rfl, h1⟩
  have k2 := ((Blk.new _ _ _).alloc _).ext h1
  have k3 := (Blk.new _ _ _).ext h1
  simp only [World.size_alloc] at k3
  have h2 := (Ext.new (Ext.new (Below.refl w5.heap.size w5) _) _).next h1
  replace he := he.next h2; replace k0 := k0.ext h2; replace k1 := k1.ext h2; replace b0 := b0.ext h2; clear h1 h2 r0 m0 r1 m1 l0 l1
  obtain ⟨r1, m1⟩ := k1.rules
  obtain ⟨r3, m3⟩ := k3.rules
  go_wp2_with fail
  refine (eqPre_same y _).mono ?_
  rintro e w7 ⟨rfl, h1⟩
  replace he := he.next h1; replace b0 := b0.ext h1; clear h1 r1 m1 r3 m3 k0 k1 k2 k3
  go_wp2_with fail
  refine (toPreS_any A c a _ (hr.ext he) hla).mono ?_
  rintro e w8 ⟨z0, rfl, _, b1, h1⟩
  replace he := he.next h1; replace b0 := b0.ext h1; clear h1
  go_wp2_with fail
  refine (eqPreS_same _ _ _ _ a _ (b0.readsL PreD.cells_length) (b1.readsL PreD.cells_length) hla).mono ?_
  rintro e w9 ⟨rfl, h1⟩
  replace he := he.next h1
  go_wp2_with fail
  go_ret
  exact ⟨rfl, he⟩

set_option maxRecDepth 100000 in
theorem Meet_holds : Rows.FnExactMeetSaid :=
  lawOver (p := Try.pinned) (c := Rows.fnExactMeetRow) (s := Rows.fnExactMeetSpec) 7 Try.f7 4
    own laidOut (by kernel_rfl) (by kernel_rfl) rfl rfl Try.underlying4
    (fun H ds h => by match ds, h with | [d0, d1], _ => rfl)
    rfl rfl rfl rfl rfl rfl rfl ⟨rfl, rfl, rfl, rfl, rfl⟩ rfl rfl rfl rfl rfl (by kernel_rfl) Try.func7 (by kernel_rfl)
    (of_decide_eq_true (by kernel_rfl)) (by unfold Func.isWrapper; rw [if_neg (of_decide_eq_false (by kernel_rfl))]; exact ⟨rfl, rfl⟩)
    rfl rfl (fun _ _ => rfl) rfl rfl rfl rfl
    (fun os started H enc => ChangeSpec.witness6 (enc := enc) (C := Try.checked) false ⟨#[], #[.int .i64 0, .slice none 0 0], []⟩ 20 (by kernel_rfl) (by kernel_rfl) (by kernel_rfl) (by kernel_rfl))
    (fun W args h => by
      have hs := h.size
      obtain ⟨l⟩ := args
      match l, hs with
      | [v0, v1], _ =>
        obtain ⟨base0, n0, o0, t0⟩ := h.arg 0 3 v0 rfl rfl
        obtain ⟨base1, n1, o1, t1⟩ := h.arg 1 66 v1 rfl rfl
        obtain ⟨a0, rfl⟩ := okWide_int Try.underlying3 o0
        obtain ⟨A0, l0, c0, rfl⟩ := okWide_slice Try.underlying66 o1
        obtain ⟨B0, d0, a, e0, x0, y0, r0, k0⟩ := typed_slice PreD.cells PreD.Ok 2 Try.underlying66 (by kernel_rfl) (by decide) PreD.cells_length (fun m es h => PreD.typed h) t1
        obtain ⟨rfl, rfl, rfl⟩ : A0 = B0 ∧ l0 = a.length ∧ c0 = d0 := by simpa [Value.cells] using e0
        exact lawMeet_walk a0 A0 c0 a W r0 k0 x0 y0)
#print axioms Meet_holds
end Go.Proofs.Ytcpfgldcijkhlaa
