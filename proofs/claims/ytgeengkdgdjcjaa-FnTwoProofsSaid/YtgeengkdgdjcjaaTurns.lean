/-
  Turns: No condition.
-/
import Derived.Test.YtgeengkdgdjcjaaWords
import Derived.Laws.ShiftsVarLaws
namespace Go.Proofs.Ytgeengkdgdjcjaa
set_option maxHeartbeats 1000000
set_option linter.unusedSimpArgs false
open Go.RowKit
set_option linter.unusedVariables false
def rotl (x : Int) (k : Nat) : Int := x * 2 ^ k % 4294967296 + x / 2 ^ (32 - k)
theorem rot_join (X k : Nat) (hX : X < 4294967296) (hk : k < 32) : bits .or .u32 ((X : Int) * 2 ^ k % 4294967296) ((X : Int) / 2 ^ (32 - k)) = rotl X k := by
 have hp : 2 ^ (32 - k) * 2 ^ k = 4294967296 := by rw [← Nat.pow_add, show 32 - k + k = 32 by omega]
 have e1 : (X : Int) * 2 ^ k % 4294967296 = ((X * 2 ^ k % 4294967296 : Nat) : Int) := by simp
 have e2 : (X : Int) / 2 ^ (32 - k) = ((X / 2 ^ (32 - k) : Nat) : Int) := by simp
 have hd : X * 2 ^ k % 4294967296 % 2 ^ k = 0 := by
  rw [← hp, Nat.mod_mul_left_mod]
  exact Nat.mul_mod_left _ _
 have hl : X / 2 ^ (32 - k) < 2 ^ k := Nat.div_lt_of_lt_mul (by rw [hp]; exact hX)
 have hq : X / 2 ^ (32 - k) ≤ X := Nat.div_le_self _ _
 unfold rotl
 rw [e1, e2, or_join _ _ (2 ^ k) k rfl hd hl (Nat.mod_lt _ (by decide)) (by omega)]
 omega
theorem rotl_rng (x : Int) (k : Nat) (h0 : 0 ≤ x) (h1 : x < 4294967296) (hk : k < 32) : 0 ≤ rotl x k ∧ rotl x k < 4294967296 := by
 obtain ⟨X, rfl⟩ := Int.eq_ofNat_of_zero_le h0
 rw [← rot_join X k (by omega) hk]
 have hX : X < 4294967296 := by omega
 have e1 : (X : Int) * 2 ^ k % 4294967296 = ((X * 2 ^ k % 4294967296 : Nat) : Int) := by simp
 have e2 : (X : Int) / 2 ^ (32 - k) = ((X / 2 ^ (32 - k) : Nat) : Int) := by simp
 have hq : X / 2 ^ (32 - k) ≤ X := Nat.div_le_self _ _
 rw [e1, e2, u32_or_nat _ _ (Nat.mod_lt _ (by decide)) (by omega)]
 have := Nat.or_lt_two_pow (n := 32) (x := X * 2 ^ k % 4294967296) (y := X / 2 ^ (32 - k)) (Nat.mod_lt _ (by decide)) (by omega)
 omega
theorem rotl_zero (x : Int) (h0 : 0 ≤ x) (h1 : x < 4294967296) : rotl x 0 = x := by
 simp only [rotl, Int.pow_zero, Int.mul_one, Nat.sub_zero]
 omega
theorem rotl_step (P Q : Int) (H b L : Int) (hPQ : P * Q = 2147483648) (hQ : 0 < Q) (hP : 0 < P) (h0 : 0 ≤ H) (h1 : H < P) (b0 : 0 ≤ b) (b1 : b ≤ 1) (l0 : 0 ≤ L) (l1 : L < Q) :
 (H * (2 * Q) + b * Q + L) * P % 4294967296 = b * 2147483648 + L * P ∧ (H * (2 * Q) + b * Q + L) / (2 * Q) = H ∧ (b * 2147483648 + L * P + H) * 2 % 4294967296 = (L * P + H) * 2 ∧ (b * 2147483648 + L * P + H) / 2147483648 = b ∧
 (H * (2 * Q) + b * Q + L) * (P * 2) % 4294967296 = L * P * 2 ∧ (H * (2 * Q) + b * Q + L) / Q = 2 * H + b := by
 have hb : b = 0 ∨ b = 1 := by omega
 have hLP0 : 0 ≤ L * P := Int.mul_nonneg l0 (Int.le_of_lt hP)
 have hLP : L * P + P ≤ 2147483648 := by
  have : (L + 1) * P ≤ Q * P := Int.mul_le_mul_of_nonneg_right (by omega) (Int.le_of_lt hP)
  rw [Int.add_mul, Int.one_mul, Int.mul_comm Q P, hPQ] at this
  exact this
 have e1 : (H * (2 * Q) + b * Q + L) * P = H * 4294967296 + b * 2147483648 + L * P := by
  rw [Int.add_mul, Int.add_mul, Int.mul_assoc H, Int.mul_assoc 2, Int.mul_comm Q P, hPQ, Int.mul_assoc b, Int.mul_comm Q P, hPQ]; omega
 have e2 : (H * (2 * Q) + b * Q + L) * (P * 2) = (H * 4294967296 + b * 2147483648 + L * P) * 2 := by rw [← Int.mul_assoc, e1]
 have e3 : (H * (2 * Q) + b * Q + L) / Q = 2 * H + b := by
  rw [show H * (2 * Q) + b * Q + L = L + (2 * H + b) * Q by rw [Int.add_mul, ← Int.mul_assoc, Int.mul_comm H 2]; omega, Int.add_mul_ediv_right _ _ (by omega), Int.ediv_eq_zero_of_lt l0 l1]; omega
 have e4 : (H * (2 * Q) + b * Q + L) / (2 * Q) = H := by
  have hbQ : 0 ≤ b * Q + L ∧ b * Q + L < 2 * Q := by rcases hb with rfl | rfl <;> omega
  rw [show H * (2 * Q) + b * Q + L = (b * Q + L) + H * (2 * Q) by omega, Int.add_mul_ediv_right _ _ (by omega), Int.ediv_eq_zero_of_lt hbQ.1 hbQ.2]; omega
 generalize L * P = Z at *
 refine ⟨?_, e4, ?_, ?_, ?_, e3⟩
 · rw [e1]; rcases hb with rfl | rfl <;> omega
 · rcases hb with rfl | rfl <;> omega
 · rcases hb with rfl | rfl <;> omega
 · rw [e2]; rcases hb with rfl | rfl <;> omega
theorem rotl_succ (x : Int) (k : Nat) (h0 : 0 ≤ x) (h1 : x < 4294967296) (hk : k < 31) : rotl (rotl x k) 1 = rotl x (k + 1) := by
 have hPQ : (2 : Int) ^ k * 2 ^ (31 - k) = 2147483648 := by rw [← Int.pow_add, show k + (31 - k) = 31 by omega]; rfl
 have hQ : (0 : Int) < 2 ^ (31 - k) := Int.pow_pos (by decide)
 have hP : (0 : Int) < 2 ^ k := Int.pow_pos (by decide)
 have hQ2 : (2 : Int) ^ (32 - k) = 2 * 2 ^ (31 - k) := by rw [show 32 - k = (31 - k) + 1 by omega, Int.pow_succ, Int.mul_comm]
 have hQ1 : (2 : Int) ^ (32 - (k + 1)) = 2 ^ (31 - k) := by rw [show 32 - (k + 1) = 31 - k by omega]
 have hP1 : (2 : Int) ^ (k + 1) = 2 ^ k * 2 := Int.pow_succ _ _
 unfold rotl
 rw [hQ2, hQ1, hP1, Int.pow_succ, Int.pow_zero, Int.one_mul, show (2 : Int) ^ (32 - 1) = 2147483648 by decide]
 generalize (2 : Int) ^ k = P at *
 generalize (2 : Int) ^ (31 - k) = Q at *
 have hH0 : 0 ≤ x / (2 * Q) := Int.ediv_nonneg h0 (by omega)
 have hH1 : x / (2 * Q) < P := Int.ediv_lt_of_lt_mul (by omega) (by rw [Int.mul_comm 2 Q, ← Int.mul_assoc, hPQ]; exact h1)
 have hr0 : 0 ≤ x % (2 * Q) := Int.emod_nonneg _ (by omega)
 have hr1 : x % (2 * Q) < 2 * Q := Int.emod_lt_of_pos _ (by omega)
 have hb0 : 0 ≤ x % (2 * Q) / Q := Int.ediv_nonneg hr0 (by omega)
 have hb1 : x % (2 * Q) / Q < 2 := Int.ediv_lt_of_lt_mul hQ hr1
 have hl0 : 0 ≤ x % (2 * Q) % Q := Int.emod_nonneg _ (by omega)
 have hl1 : x % (2 * Q) % Q < Q := Int.emod_lt_of_pos _ hQ
 have ex : x = x / (2 * Q) * (2 * Q) + x % (2 * Q) / Q * Q + x % (2 * Q) % Q := by
  have a1 := Int.mul_ediv_add_emod x (2 * Q)
  have a2 := Int.mul_ediv_add_emod (x % (2 * Q)) Q
  rw [Int.mul_comm (x / (2 * Q)), Int.mul_comm (x % (2 * Q) / Q), Int.add_assoc, a2, a1]
 generalize x / (2 * Q) = H at *
 generalize x % (2 * Q) / Q = b at *
 generalize x % (2 * Q) % Q = L at *
 obtain ⟨f1, f2, f3, f4, f5, f6⟩ := rotl_step P Q H b L hPQ hQ hP hH0 hH1 hb0 (by omega) hl0 hl1
 subst ex
 rw [f1, f3, f4, f5, f6]
 omega
theorem Rotate_any (x : Int) (k : Nat) (w : World) (h0 : 0 ≤ x) (h1 : x < 4294967296) (h3 : k < 32) : Calls Try.prog 79 #[.int .u32 x, .int .i64 (k : Int)] w fun e w' => e = .returned (.int .u32 (rotl x k)) ∧ w = w' := by
 have hand : bits .and .u64 (k : Int) 31 = (k : Int) := by
  have := u64_and_nat k 31 (by omega) (by decide)
  rw [nat_mask5, Nat.mod_eq_of_lt h3] at this
  exact this
 obtain ⟨X, rfl⟩ := Int.eq_ofNat_of_zero_le h0
 have E := hU (rot_join X k (by omega) h3)
 go_enter Try.func79, Try.ntmps79
 go_wp2_with fail
 go_ret
 exact ⟨ret_int E.out, rfl⟩
theorem Turn_any (x : Int) (n : Int) (w : World) (h0 : 0 ≤ x) (h1 : x < 4294967296) (h2 : 0 ≤ n) (h3 : n < 32) : Calls Try.prog 73 #[.int .u32 x, .int .i64 n] w fun e w' => e = .returned (.int .u32 (rotl x n.toNat)) ∧ w = w' := by
 obtain ⟨k, rfl⟩ := Int.eq_ofNat_of_zero_le h2
 rw [Int.toNat_natCast]
 have hk : k < 32 := by omega
 go_enter Try.func73, Try.ntmps73
 go_wp2_with fail
 rw [show (k : Int) % 32 = (k : Int) by omega]
 refine (Rotate_any x k _ h0 h1 hk).mono ?_
 rintro e w1 ⟨rfl, rfl⟩
 go_wp2_with fail
 go_ret
 exact ⟨rfl, rfl⟩
theorem specTurn_any (x : Int) (n : Int) (w : World) (h0 : 0 ≤ x) (h1 : x < 4294967296) (h2 : 0 ≤ n) (h3 : n < 32) : Calls Try.prog 67 #[.int .u32 x, .int .i64 n] w fun e w' => e = .returned (.int .u32 (rotl x n.toNat)) ∧ w = w' := by
 obtain ⟨m, rfl⟩ := Int.eq_ofNat_of_zero_le h2
 rw [Int.toNat_natCast]
 have hm : m < 32 := by omega
 have Z := hU (rotl_zero x h0 h1)
 have hr : (m : Int) % 32 = (m : Int) := by omega
 have hr2 : m % 32 = m := by omega
 have hx0 := hU h0
 have hx1 := hU h1
 go_enter Try.func67, Try.ntmps67
 go_wp2_with fail
 go_loop [0, 6, 7] (fun y i _ => ∃ (k : Nat) (q : Int), k ≤ m ∧ i = .int .i64 k ∧ y = .int .u32 q ∧ 0 ≤ q ∧ q < 4294967296 ∧ Hid (q = rotl x k)) (fun _ i _ => m - (intOf i).toNat)
 case atStart => exact ⟨0, x, by omega, rfl, rfl, h0, h1, hU Z.out.symm⟩
 case round =>
  obtain ⟨k, q, hk, rfl, rfl, q0, q1, hq⟩ := hrel
  by_cases hlt : k < m
  · obtain ⟨Q, rfl⟩ := Int.eq_ofNat_of_zero_le q0
    have hj := rot_join Q 1 (by omega) (by decide)
    have hs := rotl_succ x k hx0.out hx1.out (by omega)
    have hg := rotl_rng (Q : Int) 1 q0 q1 (by decide)
    have e31 : (2 : Int) ^ (32 - 1) = 2147483648 := by decide
    rw [e31, Int.pow_succ, Int.pow_zero, Int.one_mul] at hj
    rw [hq.out, ] at hg
    rw [← hq.out] at hs
    obtain ⟨hg0, hg1⟩ := hg
    rw [← hq.out] at hg0 hg1
    obtain ⟨y, hy⟩ : ∃ y, y = rotl (Q : Int) 1 := ⟨_, rfl⟩
    rw [← hy] at hj hs hg0 hg1
    have Hs := hU hs
    clear hy hs
    go_wp2_with fail
    go_round
    case rel => exact ⟨k + 1, y, by omega, by go_num, rfl, hg0, hg1, Hs⟩
    case measure => simp [intOf]; omega
  · obtain rfl : k = m := by omega
    go_wp2_with fail
    go_ret
    exact ⟨ret_int hq.out, rfl⟩
end Go.Proofs.Ytgeengkdgdjcjaa
