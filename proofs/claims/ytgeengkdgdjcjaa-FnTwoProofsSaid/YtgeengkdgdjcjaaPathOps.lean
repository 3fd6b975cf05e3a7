/-
  PathOps: No condition.
-/
import Derived.Test.YtgeengkdgdjcjaaPath
import Derived.Test.YtgeengkdgdjcjaaBits
namespace Go.Proofs.Ytgeengkdgdjcjaa
set_option maxHeartbeats 2000000
set_option maxRecDepth 1000000
set_option linter.unusedSimpArgs false
open Go.RowKit
set_option linter.unusedVariables false
theorem hashes_no {w : Int} {l : List ByteArray} {k : Nat} (hk : k < l.length) (h : ((l[k].size : Int) == w) = false) : hashes w l = false := by
 rw [hashes, List.all_eq_false]
 exact ⟨l[k], List.getElem_mem hk, by simpa using h⟩
theorem hashes_up {w : Int} {l : List ByteArray} (h : ∀ k (hk : k < l.length), ((l[k].size : Int) == w) = true) : hashes w l = true := by
 rw [hashes, List.all_eq_true]
 intro x hx
 obtain ⟨k, hk, rfl⟩ := List.getElem_of_mem hx
 exact h k hk
theorem areHashes_any (n : Int) (A : Option Addr) (c : Nat) (l : List ByteArray) (w : World) (hr : ReadsL w w.heap.size sone 1 A l) (hl : l.length ≤ 1048576) :
 Calls Try.prog 37 #[.int .i64 n, .slice A l.length c] w fun e w' => e = .returned (.bool (hashes n l)) ∧ Ext w w' := by
 go_enter Try.func37, Try.ntmps37
 go_wp2_with fail
 go_loopw [6, 9] (fun _ i wr => ∃ (k : Nat), k ≤ l.length ∧ i = .int .i64 k ∧ (∀ j (hj : j < l.length), j < k → ((l[j].size : Int) == n) = true) ∧ Ext w wr) (fun _ i _ => l.length - (intOf i).toNat)
 case atStart => exact ⟨0, Nat.zero_le _, rfl, fun j _ h => absurd h (Nat.not_lt_zero _), Below.refl _ _⟩
 case round =>
  obtain ⟨k, hk, rfl, hall, he⟩ := hrel
  have Hall := hU hall; clear hall
  by_cases hlt : k < l.length
  · obtain ⟨b, off, rfl, hb, hc⟩ := Reads.at_ (hr.ext he) (k := k) hlt
    have hdl : l[k]? = some l[k] := List.getElem?_eq_getElem hlt
    have c0 := hc 0 _ (flat_at _ 1 sone_length l k 0 _ hdl (by omega))
    rw [Nat.add_zero, Nat.mul_one] at c0
    clear hc hdl
    cases b1 : ((l[k].size : Int) == n)
    · have E := hU (hashes_no hlt b1)
      generalize l[k] = x at *
      go_wp2_with fail
      go_ret
      exact ⟨ret_bool E.out.symm, he⟩
    · have Hn : Hid (∀ j (hj : j < l.length), j < k + 1 → ((l[j].size : Int) == n) = true) := hU (fun j hj h => by
       rcases Nat.lt_or_ge j k with h1 | h1
       · exact Hall.out j hj h1
       · obtain rfl : j = k := by omega
         exact b1)
      clear Hall
      generalize l[k] = x at *
      go_wp2_with fail
      go_roundw
      case rel => exact ⟨k + 1, by omega, by go_num, Hn.out, he⟩
      case measure => simp [intOf]; omega
  · have E := hU (hashes_up (fun j hj => Hall.out j hj (by omega)))
    go_wp2_with fail
    go_ret
    exact ⟨ret_bool E.out.symm, he⟩
theorem l04Hashes_any (n : Int) (A : Option Addr) (c : Nat) (l : List ByteArray) (w : World) (hr : ReadsL w w.heap.size sone 1 A l) (hl : l.length ≤ 1048576) :
 Calls Try.prog 18 #[.int .i64 n, .slice A l.length c] w fun e w' => e = .returned (.bool (hashes n l && inR n 1 32)) ∧ Ext w w' := by
 go_enter Try.func18, Try.ntmps18
 go_wp2_with fail
 go_loopw [5] (fun i wr => ∃ (k : Nat), k ≤ l.length ∧ i = .int .i64 k ∧ (∀ j (hj : j < l.length), j < k → ((l[j].size : Int) == n) = true) ∧ Ext w wr) (fun i _ => l.length - (intOf i).toNat)
 case atStart => exact ⟨0, Nat.zero_le _, rfl, fun j _ h => absurd h (Nat.not_lt_zero _), Below.refl _ _⟩
 case round =>
  obtain ⟨k, hk, rfl, hall, he⟩ := hrel
  have Hall := hU hall; clear hall
  by_cases hlt : k < l.length
  · obtain ⟨b, off, rfl, hb, hc⟩ := Reads.at_ (hr.ext he) (k := k) hlt
    have hdl : l[k]? = some l[k] := List.getElem?_eq_getElem hlt
    have c0 := hc 0 _ (flat_at _ 1 sone_length l k 0 _ hdl (by omega))
    rw [Nat.add_zero, Nat.mul_one] at c0
    clear hc hdl
    have hd : decide ((k : Int) < (l.length : Int)) = true := by rw [decide_eq_true_iff]; omega
    cases b1 : ((l[k].size : Int) == n)
    · have E := hU (hashes_no hlt b1)
      have b2 := ne_of_beq b1
      generalize l[k] = x at *
      go_wp2_with fail
      go_ret
      exact ⟨ret_bool (by rw [E.out]; rfl), he⟩
    · have Hn : Hid (∀ j (hj : j < l.length), j < k + 1 → ((l[j].size : Int) == n) = true) := hU (fun j hj h => by
       rcases Nat.lt_or_ge j k with h1 | h1
       · exact Hall.out j hj h1
       · obtain rfl : j = k := by omega
         exact b1)
      have b2 := ne_of_beq b1
      clear Hall
      generalize l[k] = x at *
      go_wp2_with fail
      go_roundw
      case rel => exact ⟨k + 1, by omega, by go_num, Hn.out, he⟩
      case measure => simp [intOf]; omega
  · have E := hU (hashes_up (fun j hj => Hall.out j hj (by omega)))
    have hd : decide ((k : Int) < (l.length : Int)) = false := by rw [decide_eq_false_iff_not]; omega
    go_wp2_with (go_at_call 33; refine (l02Width_any _ _).mono ?_; rintro e w' ⟨rfl, rfl⟩)
    go_ret
    exact ⟨ret_bool (by rw [E.out]; rfl), he⟩
theorem Len_any (x : Nat) (w : World) (h0 : 0 < x) (hx : x < 512) : Calls Try.prog 57 #[.int .u64 (x : Int)] w fun e w' => e = .returned (.int .i64 ((Nat.log2 x + 1 : Nat) : Int)) ∧ w = w' := by
 go_enter Try.func57, Try.ntmps57
 go_wp2_with (go_at_call 69; refine (Len64_any x _ h0 hx).mono ?_; rintro e w' ⟨rfl, rfl⟩)
 go_ret
 exact ⟨rfl, rfl⟩
theorem HalfOf_any (n : Nat) (w : World) (h0 : 2 ≤ n) (h1 : n ≤ 512) : Calls Try.prog 47 #[.int .i64 (n : Int)] w fun e w' => e = .returned (.int .i64 (half n : Int)) ∧ w = w' := by
 have hin : inR (n : Int) 2 512 = true := by simp [inR]; omega
 have hl : Nat.log2 (n - 1) < 9 := (Nat.log2_lt (by omega)).2 (by omega)
 have e1 : (n : Int) - 1 = ((n - 1 : Nat) : Int) := by omega
 unfold half
 have HL := fun (x : Nat) (w : World) (hx : x = n - 1) (k : Nat) (hk : k = Nat.log2 (n - 1)) => show Calls Try.prog 57 #[.int .u64 (x : Int)] w fun e w' => e = .returned (.int .i64 ((k + 1 : Nat) : Int)) ∧ w = w' by
  subst hx; subst hk; exact Len_any (n - 1) w (by omega) (by omega)
 have HL := fun w => HL (n - 1) w rfl _ rfl
 generalize Nat.log2 (n - 1) = k at hl HL ⊢
 have HL := hU HL
 have hc : k = 0 ∨ k = 1 ∨ k = 2 ∨ k = 3 ∨ k = 4 ∨ k = 5 ∨ k = 6 ∨ k = 7 ∨ k = 8 := by omega
 rcases hc with rfl | rfl | rfl | rfl | rfl | rfl | rfl | rfl | rfl
 all_goals
  go_enter Try.func47, Try.ntmps47
  go_wp2_with (first | (go_at_call 40; refine (inRange_any _ _ _ _).mono ?_; rintro e w' ⟨rfl, rfl⟩; rw [hin]) | (go_at_call 57; refine (HL.out _).mono ?_; rintro e w' ⟨rfl, rfl⟩))
  go_ret
  exact ⟨rfl, rfl⟩
theorem specHalfOf_any (n : Nat) (w : World) (h0 : 2 ≤ n) (h1 : n ≤ 512) : Calls Try.prog 35 #[.int .i64 (n : Int)] w fun e w' => e = .returned (.int .i64 (half n : Int)) ∧ w = w' := by
 have hin : inR (n : Int) 2 512 = true := by simp [inR]; omega
 go_enter Try.func35, Try.ntmps35
 go_wp2_with (go_at_call 22; refine (l01In_any _ _ _ _).mono ?_; rintro e w' ⟨rfl, rfl⟩; rw [hin])
 have H0 := hU (show (1 : Nat) = 2 ^ 0 from rfl)
 go_loop [3] (fun p => ∃ k m : Nat, p = .int .i64 (m : Int) ∧ 0 < m ∧ m < n ∧ Hid (m = 2 ^ k)) (fun p => n - (intOf p).toNat)
 case atStart => exact ⟨0, 1, rfl, by omega, by omega, H0⟩
 case round =>
  obtain ⟨k, m, rfl, hm1, hlt, hm⟩ := hrel
  by_cases h : 2 * m < n
  · have hd : decide (2 * (m : Int) < (n : Int)) = true := by rw [decide_eq_true_iff]; omega
    have e2 := hU (show 2 * m = 2 ^ (k + 1) by rw [hm.out, Nat.pow_succ]; omega)
    go_wp2_with fail
    go_round
    case rel => exact ⟨k + 1, 2 * m, by go_num, by omega, h, e2⟩
    case measure => simp [intOf]; omega
  · have hd : decide (2 * (m : Int) < (n : Int)) = false := by rw [decide_eq_false_iff_not]; omega
    have e3 := hU (show half n = m by rw [hm.out]; exact half_eq (by have := hm.out; omega) (by have := hm.out; rw [Nat.pow_succ]; omega))
    go_wp2_with fail
    go_ret
    exact ⟨ret_int (by rw [e3.out]), rfl⟩
end Go.Proofs.Ytgeengkdgdjcjaa
