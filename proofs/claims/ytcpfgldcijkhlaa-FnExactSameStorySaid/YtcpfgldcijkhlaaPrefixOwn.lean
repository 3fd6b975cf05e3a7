/-
  The program's PrefixOf at two lists of its own, nil or not: walks. No condition.
-/
import Derived.Test.YtcpfgldcijkhlaaPrefix
import Derived.Test.YtcpfgldcijkhlaaGivenTo
namespace Go.Proofs.Ytcpfgldcijkhlaa
open Go.RowKit
set_option linter.unusedVariables false

set_option maxHeartbeats 1000000 in
set_option maxRecDepth 100000 in
theorem PrefixOf_nilL (A' : Option Addr) (c' : Nat) (b : List EntryD) (w : World) (hA : (A' = none ∧ b = [] ∧ c' = 0) ∨ ∃ g', A' = some ⟨g', 0, none⟩) (hlb : b.length ≤ 1048576) (hcb : b.length ≤ c') :
    Calls Try.prog 144 #[.slice none 0 0, .slice A' b.length c'] w fun e w' => e = .returned (.bool (prefixB [] b)) ∧ Ext w w' := by
  by_cases h2 : 200 < b.length
  · have Hp := Lib.hid (show prefixB [] b = false by simp [prefixB]; omega)
    go_enter Try.func144, Try.ntmps144
    go_wp2_with fail
    go_ret
    exact ⟨ret_bool Hp.out.symm, by go_grown⟩
  have Hp := Lib.hid (show prefixB [] b = true by simp [prefixB, pfx]; omega)
  have m1 : min (0 : Int) (b.length : Int) = 0 := by omega
  have hnil : ∀ (B : Option Addr) (w : World), ReadsL w w.heap.size EntryD.cells 5 B [] := fun B w => ⟨by simp, fun h => absurd h (by simp)⟩
  rcases hA with ⟨rfl, rfl, rfl⟩ | ⟨g', rfl⟩
  all_goals
    go_enter Try.func144, Try.ntmps144
    go_wp2_with fail
    go_still_tail 6, (by kernel_rfl)
    change wpList _ _ _ _ _ w.drew
    generalize hw : w.drew = w2 at *
    have he : Ext w w2 := by rw [← hw]; exact (Below.refl _ _).drew
    clear hw
    go_wp2_with fail
    refine (equalEntry_any _ _ _ _ [] [] _ (hnil _ _) (hnil _ _) (by simp) (by simp)).mono ?_
    rintro e w3 ⟨rfl, h⟩
    replace he := he.next h
    go_wp2_with fail
    go_ret
    exact ⟨ret_bool (by rw [Hp.out]; rfl), he⟩
set_option maxHeartbeats 1000000 in
set_option maxRecDepth 100000 in
theorem PrefixOf_nilR (g : Nat) (c : Nat) (a : List EntryD) (w : World) (hla : a.length ≤ 1048576) (hca : a.length ≤ c) :
    Calls Try.prog 144 #[.slice (some ⟨g, 0, none⟩) a.length c, .slice none 0 0] w fun e w' => e = .returned (.bool (prefixB a [])) ∧ Ext w w' := by
  by_cases h2 : 200 < a.length
  · have Hp := Lib.hid (show prefixB a [] = false by simp [prefixB]; omega)
    go_enter Try.func144, Try.ntmps144
    go_wp2_with fail
    go_ret
    exact ⟨ret_bool Hp.out.symm, by go_grown⟩
  have Hp := Lib.hid (show prefixB a [] = true by cases a <;> simp [prefixB, pfx] <;> simp at h2 <;> omega)
  have m1 : min (a.length : Int) (0 : Int) = 0 := by omega
  have hnil : ∀ (B : Option Addr) (w : World), ReadsL w w.heap.size EntryD.cells 5 B [] := fun B w => ⟨by simp, fun h => absurd h (by simp)⟩
  rcases Nat.eq_zero_or_pos a.length with hz | hp
  · obtain rfl : a = [] := List.eq_nil_of_length_eq_zero hz
    clear hz m1
    go_enter Try.func144, Try.ntmps144
    go_wp2_with fail
    go_still_tail 6, (by kernel_rfl)
    change wpList _ _ _ _ _ w.drew
    generalize hw : w.drew = w2 at *
    have he : Ext w w2 := by rw [← hw]; exact (Below.refl _ _).drew
    clear hw
    go_wp2_with fail
    refine (equalEntry_any _ _ _ _ [] [] _ (hnil _ _) (hnil _ _) (by simp) (by simp)).mono ?_
    rintro e w3 ⟨rfl, h⟩
    replace he := he.next h
    go_wp2_with fail
    go_ret
    exact ⟨ret_bool (by rw [Hp.out]; rfl), he⟩
  · have hp1 : (0 : Int) < (a.length : Int) := by omega
    have hp2 : ¬ (a.length : Int) ≤ 0 := by omega
    go_enter Try.func144, Try.ntmps144
    go_wp2_with fail
    go_still_tail 6, (by kernel_rfl)
    change wpList _ _ _ _ _ w.drew
    generalize hw : w.drew = w2 at *
    have he : Ext w w2 := by rw [← hw]; exact (Below.refl _ _).drew
    clear hw
    go_wp2_with fail
    refine (equalEntry_any _ _ _ _ [] [] _ (hnil _ _) (hnil _ _) (by simp) (by simp)).mono ?_
    rintro e w3 ⟨rfl, h⟩
    replace he := he.next h
    go_wp2_with fail
    go_ret
    exact ⟨ret_bool (by rw [Hp.out]; rfl), he⟩
theorem PrefixOf_own {W W' w : World} {v v' : Value} {a b : List EntryD} (ha : OwnF EntryD.cells 5 25 W w v a) (hb : OwnF EntryD.cells 5 25 W' w v' b) (hla : a.length ≤ 1048576) (hlb : b.length ≤ 1048576) :
    Calls Try.prog 144 #[v, v'] w fun e w' => e = .returned (.bool (prefixB a b)) ∧ Ext w w' := by
  rcases ha.2 with ⟨h1, h2⟩ | ⟨g, cap, cur, hv, hg, hh, hnc, hm, hs, ht⟩
  · obtain rfl : a = [] := List.eq_nil_of_length_eq_zero h2
    rw [h1]
    rcases hb.2 with ⟨k1, k2⟩ | ⟨g', cap', cur', hv', hg', hh', hnc', hm', hs', ht'⟩
    · obtain rfl : b = [] := List.eq_nil_of_length_eq_zero k2
      rw [k1]
      exact PrefixOf_nilL none 0 [] w (.inl ⟨rfl, rfl, rfl⟩) (by simp) (by simp)
    · rw [hv']
      exact PrefixOf_nilL _ cap' b w (.inr ⟨g', rfl⟩) hlb hnc'
  · rw [hv]
    rcases hb.2 with ⟨k1, k2⟩ | ⟨g', cap', cur', hv', hg', hh', hnc', hm', hs', ht'⟩
    · obtain rfl : b = [] := List.eq_nil_of_length_eq_zero k2
      rw [k1]
      exact PrefixOf_nilR g cap a w hla hnc
    · rw [hv']
      exact PrefixOf_any g g' cap cap' a b w (Reads.of_own (c := cap) (by rw [← hv]; exact ha)) (Reads.of_own (c := cap') (by rw [← hv']; exact hb)) hla hlb hnc hnc'
end Go.Proofs.Ytcpfgldcijkhlaa
