/-
  Steps: No condition.
-/
import Derived.Test.YtgeengkdgdjcjaaPathOps
namespace Go.Proofs.Ytgeengkdgdjcjaa
set_option maxHeartbeats 1000000
set_option linter.unusedSimpArgs false
open Go.RowKit
set_option linter.unusedVariables false
theorem stepsF_le : ∀ (f n a : Nat), stepsF f n a ≤ f
 | 0, _, _ => Nat.le_refl _
 | f + 1, n, a => by
   have h1 := stepsF_le f (half n) a
   have h2 := stepsF_le f (n - half n) (a - half n)
   rw [stepsF]
   split
   · omega
   · split <;> omega
theorem stepsIn_no {n a : Int} (h : ¬ (inR n 0 512 = true ∧ inR a 0 (n - 1) = true)) : stepsIn n a = -1 := by
 rw [stepsIn, if_neg (by rw [Bool.and_eq_true]; exact h)]
theorem stepsIn_yes {n a : Nat} (h : n ≤ 512) (ha : a < n) : stepsIn (n : Int) (a : Int) = (stepsN n a : Int) := by
 rw [stepsIn, if_pos (by rw [Bool.and_eq_true]; simp [inR]; omega), Int.toNat_natCast, Int.toNat_natCast]
theorem implStepsIn_any (n a : Int) (w : World) : Calls Try.prog 38 #[.int .i64 n, .int .i64 a] w fun e w' => e = .returned (.int .i64 (stepsIn n a)) ∧ w = w' := by
 by_cases h : inR n 0 512 = true ∧ inR a 0 (n - 1) = true
 case neg =>
  have E := hU (stepsIn_no h)
  have hx : a < 0 ∨ (0 ≤ a ∧ n ≤ a) ∨ (0 ≤ a ∧ a < n ∧ 512 < n) := by simp [inR] at h; omega
  clear h
  rcases hx with h1 | ⟨h1, h2⟩ | ⟨h1, h2, h3⟩
  all_goals
   go_enter Try.func38, Try.ntmps38
   go_wp2_with fail
   go_ret
   exact ⟨ret_int E.out.symm, rfl⟩
 obtain ⟨x0, x1⟩ := inR_true h.1
 obtain ⟨y0, y1⟩ := inR_true h.2
 have g0 := h.1
 have g1 := h.2
 clear h
 obtain ⟨n, rfl⟩ : ∃ k : Nat, n = (k : Int) := ⟨n.toNat, by omega⟩
 obtain ⟨a, rfl⟩ : ∃ k : Nat, a = (k : Int) := ⟨a.toNat, by omega⟩
 have E := stepsIn_yes (n := n) (a := a) (by omega) (by omega)
 have hS : stepsN n a ≤ 512 := Nat.le_trans (stepsF_le n n a) (by omega)
 obtain ⟨S, hSe⟩ : ∃ S, S = stepsN n a := ⟨_, rfl⟩
 rw [← hSe] at E hS
 have E := hU E
 have H0 := hU (show 0 + stepsN n a = S by omega)
 clear hSe
 have f1 : decide ((a : Int) < 0) = false := by rw [decide_eq_false_iff_not]; omega
 have f2 : decide ((n : Int) ≤ (a : Int)) = false := by rw [decide_eq_false_iff_not]; omega
 have f4 : decide (n ≤ a) = false := by rw [decide_eq_false_iff_not]; omega
 have f3 : decide ((512 : Int) < (n : Int)) = false := by rw [decide_eq_false_iff_not]; omega
 go_enter Try.func38, Try.ntmps38
 go_wp2_with fail
 go_loop [0, 1, 5, 6] (fun sz at_ st _ => ∃ m b k : Nat, sz = .int .i64 (m : Int) ∧ at_ = .int .i64 (b : Int) ∧ st = .int .i64 (k : Int) ∧ b < m ∧ m ≤ 512 ∧ k ≤ 512 ∧ Hid (k + stepsN m b = S)) (fun sz _ _ _ => (intOf sz).toNat)
 case atStart => exact ⟨n, a, 0, rfl, rfl, rfl, by omega, by omega, by omega, H0⟩
 case round =>
  obtain ⟨m, b, k, rfl, rfl, rfl, hb, hm, hk, hs⟩ := hrel
  clear H0
  by_cases h1 : 1 < m
  · have d1 : decide ((m : Int) > 1) = true := by rw [decide_eq_true_iff]; omega
    have l1 := half_lt (n := m) (by omega)
    have l2 := half_pos m
    by_cases h2 : b < half m
    · have d2 : decide ((b : Int) < ((half m : Nat) : Int)) = true := by rw [decide_eq_true_iff]; omega
      have hn := hU (show k + 1 + stepsN (half m) b = S by have := hs.out; rw [stepsN_lo h1 h2] at this; omega)
      have hk2 : k + 1 ≤ 512 := by have := hn.out; omega
      go_wp2_with (go_at_call 47; refine (HalfOf_any m _ (by omega) (by omega)).mono ?_; rintro e w' ⟨rfl, rfl⟩)
      go_round
      case rel => first | exact ⟨half m, b, k + 1, rfl, rfl, by go_num, h2, by omega, hk2, hn⟩ | exact ⟨trivial, _, _, _, _, _, _, _, _, _, _, _, _, _, _, _, _, _, _, _, _, ⟨half m, b, k + 1, rfl, rfl, by go_num, h2, by omega, hk2, hn⟩, rfl⟩
      case measure => simp [intOf]; omega
    · have d2 : decide ((b : Int) < ((half m : Nat) : Int)) = false := by rw [decide_eq_false_iff_not]; omega
      have hn := hU (show k + 1 + stepsN (m - half m) (b - half m) = S by have := hs.out; rw [stepsN_hi h1 h2] at this; omega)
      have hk2 : k + 1 ≤ 512 := by have := hn.out; omega
      have e1 : (m : Int) - ((half m : Nat) : Int) = ((m - half m : Nat) : Int) := by omega
      have e2 : (b : Int) - ((half m : Nat) : Int) = ((b - half m : Nat) : Int) := by omega
      go_wp2_with (go_at_call 47; refine (HalfOf_any m _ (by omega) (by omega)).mono ?_; rintro e w' ⟨rfl, rfl⟩)
      go_round
      case rel => first | exact ⟨m - half m, b - half m, k + 1, by go_num, by go_num, by go_num, by omega, by omega, hk2, hn⟩ | exact ⟨trivial, _, _, _, _, _, _, _, _, _, _, _, _, _, _, _, _, _, _, _, _, ⟨m - half m, b - half m, k + 1, by go_num, by go_num, by go_num, by omega, by omega, hk2, hn⟩, rfl⟩
      case measure => simp [intOf]; omega
  · have d1 : decide ((m : Int) > 1) = false := by rw [decide_eq_false_iff_not]; omega
    have hn := hU (show (S : Int) = (k : Int) by have := hs.out; rw [stepsN_one (by omega)] at this; omega)
    go_wp2_with fail
    go_ret
    exact ⟨ret_int hn.out.symm, rfl⟩
end Go.Proofs.Ytgeengkdgdjcjaa
