/-
  The program's PrefixOf returns what the reference's returns, for all arguments. No condition.
-/
import Derived.Test.YthkioaimcohecaaRows
import Derived.Test.YthkioaimcohecaaFacts
import Derived.Test.YthkioaimcohecaaPrefix
namespace Go.Proofs.Ythkioaimcohecaa
open Go.RowKit Go.WideShapes Go.ChangeAt
set_option linter.unusedVariables false

set_option maxHeartbeats 1000000 in
theorem lawPrefixOf_walk (A A' : Option Addr) (c c' : Nat) (a b : List EntryD) (w : World) (hr : ReadsL w w.heap.size EntryD.cells 5 A a) (hr' : ReadsL w w.heap.size EntryD.cells 5 A' b) (ha : ∀ d ∈ a, d.Ok) (hb : ∀ d ∈ b, d.Ok) (hca : a.length ≤ c) (hcb : b.length ≤ c') (hc : c ≤ maxLen) (hc' : c' ≤ maxLen) :
    Calls Try.prog 6 #[.slice A a.length c, .slice A' b.length c'] w fun e w' => e = .returned (.bool true) ∧ Ext w w' := by
  have Ha := Lib.hid ha; have Hb := Lib.hid hb; clear ha hb
  have p1 := szL_pos (a.length :: a.flatMap EntryD.lens) 1048576 (by decide)
  have q1 := szL_le (a.length :: a.flatMap EntryD.lens) 1048576
  by_cases s1 : szL (a.length :: a.flatMap EntryD.lens) 1048576 < 0
  · go_enter Try.func6, Try.ntmps6
    go_wp2_with fail
    refine (szEntryS_any A c a _ _ hr Ha.out (by omega) (by decide) (by decide)).mono ?_
    rintro e w1 ⟨rfl, he⟩
    go_wp2_with fail
    go_ret
    exact ⟨rfl, he⟩
  have n1 : 0 ≤ szL (a.length :: a.flatMap EntryD.lens) 1048576 := by omega
  have m1 : szL (a.length :: a.flatMap EntryD.lens) 1048576 ≤ 1048576 := by omega
  have hla : a.length ≤ 1048576 := by
    rcases Nat.lt_or_ge 1048576 a.length with h | h
    · simp only [szL] at s1; rw [if_pos (by omega)] at s1; omega
    · exact h
  obtain ⟨l1, hl1⟩ : ∃ l1, l1 = szL (a.length :: a.flatMap EntryD.lens) 1048576 := ⟨_, rfl⟩
  rw [← hl1] at n1 m1
  have Hl1 := Lib.hid hl1
  clear p1 q1 s1 hl1
  have p2 := szL_pos (b.length :: b.flatMap EntryD.lens) l1 n1
  by_cases s2 : szL (b.length :: b.flatMap EntryD.lens) l1 < 0
  · go_enter Try.func6, Try.ntmps6
    go_wp2_with fail
    have h0 := szEntryS_any A c a 1048576 w hr Ha.out (by omega) (by decide) (by decide)
    rw [← Hl1.out] at h0
    refine h0.mono ?_
    clear h0
    rintro e w1 ⟨rfl, he⟩
    go_wp2_with fail
    refine (szEntryS_any A' c' b l1 _ (hr'.ext he) Hb.out (by omega) n1 m1).mono ?_
    rintro e w2 ⟨rfl, h1⟩
    replace he := he.next h1; clear h1
    go_wp2_with fail
    go_ret
    exact ⟨rfl, he⟩
  have n2 : 0 ≤ szL (b.length :: b.flatMap EntryD.lens) l1 := by omega
  have hlb : b.length ≤ 1048576 := by
    rcases Nat.lt_or_ge 1048576 b.length with h | h
    · simp only [szL] at s2; rw [if_pos (by omega)] at s2; omega
    · exact h
  clear p2 s2
  go_enter Try.func6, Try.ntmps6
  go_wp2_with fail
  have h0 := szEntryS_any A c a 1048576 w hr Ha.out (by omega) (by decide) (by decide)
  rw [← Hl1.out] at h0
  refine h0.mono ?_
  clear h0
  rintro e w1 ⟨rfl, he⟩
  go_wp2_with fail
  refine (szEntryS_any A' c' b l1 _ (hr'.ext he) Hb.out (by omega) n1 m1).mono ?_
  rintro e w2 ⟨rfl, h1⟩
  replace he := he.next h1; clear h1
  go_wp2_with fail
  refine (toEntryS_any A c a _ (hr.ext he) hla).mono ?_
  rintro e w3 ⟨y0, rfl, _, b0, h1⟩
  replace he := he.next h1; clear h1
  go_wp2_with fail
  refine (toEntryS_any A' c' b _ (hr'.ext he) hlb).mono ?_
  rintro e w4 ⟨y1, rfl, _, b1, h1⟩
  replace b0 := b0.ext h1; replace he := he.next h1; clear h1
  go_wp2_with fail
  refine (specPrefixOf_any _ _ _ _ a b _ (b0.readsL EntryD.cells_length) (b1.readsL EntryD.cells_length) hla hlb).mono ?_
  rintro e w5 ⟨rfl, h1⟩
  replace he := he.next h1; clear h1 b0 b1
  go_wp2_with fail
  refine (toEntryS_any A c a _ (hr.ext he) hla).mono ?_
  rintro e w6 ⟨x0, rfl, _, b0, h1⟩
  replace he := he.next h1; clear h1
  go_wp2_with fail
  refine (toEntryS_any A' c' b _ (hr'.ext he) hlb).mono ?_
  rintro e w7 ⟨x1, rfl, _, b1, h1⟩
  replace b0 := b0.ext h1; replace he := he.next h1; clear h1
  go_wp2_with fail
  refine (PrefixOf_any _ _ _ _ a b _ (b0.readsL EntryD.cells_length) (b1.readsL EntryD.cells_length) hla hlb (Nat.le_refl _) (Nat.le_refl _)).mono ?_
  rintro e w8 ⟨rfl, h1⟩
  replace b0 := b0.ext h1; replace b1 := b1.ext h1; replace he := he.next h1; clear h1
  go_wp2_with fail
  refine (toEntryS_any A c a _ (hr.ext he) hla).mono ?_
  rintro e w9 ⟨z0, rfl, _, d0, h1⟩
  replace b0 := b0.ext h1; replace b1 := b1.ext h1; replace he := he.next h1; clear h1
  go_wp2_with fail
  refine (eqEntryS_same _ _ _ _ a _ (b0.readsL EntryD.cells_length) (d0.readsL EntryD.cells_length) hla).mono ?_
  rintro e w10 ⟨rfl, h1⟩
  replace b1 := b1.ext h1; replace he := he.next h1; clear h1 d0 b0
  go_wp2_with fail
  refine (toEntryS_any A' c' b _ (hr'.ext he) hlb).mono ?_
  rintro e w11 ⟨z1, rfl, _, d1, h1⟩
  replace b1 := b1.ext h1; replace he := he.next h1; clear h1
  go_wp2_with fail
  refine (eqEntryS_same _ _ _ _ b _ (b1.readsL EntryD.cells_length) (d1.readsL EntryD.cells_length) hlb).mono ?_
  rintro e w12 ⟨rfl, h1⟩
  replace he := he.next h1; clear h1 d1 b1
  go_wp2_with fail
  go_ret
  exact ⟨rfl, he⟩

set_option maxRecDepth 100000 in
theorem PrefixOf_holds : Rows.FnExactPrefixOfSaid :=
  lawOver (p := Try.pinned) (c := Rows.fnExactPrefixOfRow) (s := Rows.fnExactPrefixOfSpec) 6 Try.f6 4
    own laidOut (by kernel_rfl) (by kernel_rfl) rfl rfl Try.underlying4
    (fun H ds h => by match ds, h with | [d0, d1], _ => rfl)
    rfl rfl rfl rfl rfl rfl rfl ⟨rfl, rfl, rfl, rfl, rfl⟩ rfl rfl rfl rfl rfl (by kernel_rfl) Try.func6 (by kernel_rfl)
    (of_decide_eq_true (by kernel_rfl)) (by unfold Func.isWrapper; rw [if_neg (of_decide_eq_false (by kernel_rfl))]; exact ⟨rfl, rfl⟩)
    rfl rfl (fun _ _ => rfl) rfl rfl rfl rfl
    (fun os started H enc => ChangeSpec.witness6 (enc := enc) (C := Try.checked) false ⟨#[], #[.slice none 0 0, .slice none 0 0], []⟩ 20 (by kernel_rfl) (by kernel_rfl) (by kernel_rfl) (by kernel_rfl))
    (fun W args h => by
      have hs := h.size
      obtain ⟨l⟩ := args
      match l, hs with
      | [v0, v1], _ =>
        obtain ⟨base0, n0, o0, t0⟩ := h.arg 0 38 v0 rfl rfl
        obtain ⟨base1, n1, o1, t1⟩ := h.arg 1 38 v1 rfl rfl
        obtain ⟨A0, l0, c0, rfl⟩ := okWide_slice Try.underlying38 o0
        obtain ⟨A1, l1, c1, rfl⟩ := okWide_slice Try.underlying38 o1
        obtain ⟨B0, d0, a, e0, x0, y0, r0, k0⟩ := typed_slice EntryD.cells EntryD.Ok 5 Try.underlying38 (by kernel_rfl) (by decide) EntryD.cells_length (fun m es h => EntryD.typed h) t0
        obtain ⟨B1, d1, b, e1, x1, y1, r1, k1⟩ := typed_slice EntryD.cells EntryD.Ok 5 Try.underlying38 (by kernel_rfl) (by decide) EntryD.cells_length (fun m es h => EntryD.typed h) t1
        obtain ⟨rfl, rfl, rfl⟩ : A0 = B0 ∧ l0 = a.length ∧ c0 = d0 := by simpa [Value.cells] using e0
        obtain ⟨rfl, rfl, rfl⟩ : A1 = B1 ∧ l1 = b.length ∧ c1 = d1 := by simpa [Value.cells] using e1
        exact lawPrefixOf_walk A0 A1 c0 c1 a b W r0 r1 k0 k1 x0 x1 y0 y1)
#print axioms PrefixOf_holds
end Go.Proofs.Ythkioaimcohecaa
