/-
  Bits; PathOps; NodeW: No condition.
-/
import Derived.Test.YtgeengkdgdjcjaaGreatMem
import Derived.Laws.MathBits
import Derived.Test.YtgeengkdgdjcjaaGreatPath
import Derived.Test.YtgeengkdgdjcjaaGreatHashTop
namespace Go.Proofs.YtgeengkdgdjcjaaGreat
set_option maxHeartbeats 8000000
set_option maxRecDepth 1000000
set_option linter.unusedSimpArgs false
open Go.RowKit
set_option linter.unusedVariables false
theorem log2_high {x : Nat} (h0 : 256 ≤ x) (h1 : x < 512) : Nat.log2 x = 8 := (Nat.log2_eq_iff (by omega)).2 ⟨by omega, by omega⟩
theorem bits_low (k : Nat) (h : k ≤ 8) : wrap64 (wrap64 (k : Int)) = (k : Int) := by unfold wrap64; omega
theorem Len64_any (x : Nat) (w : World) (h0 : 0 < x) (hx : x < 512) : Calls Tryz.prog 256 #[.int .u64 (x : Int)] w fun e w' => e = .returned (.int .i64 ((Nat.log2 x + 1 : Nat) : Int)) ∧ w = w' := by
 have d1 : decide ((x : Int) ≥ 4294967296) = false := by rw [decide_eq_false_iff_not]; omega
 go_enter Tryz.func256, Tryz.ntmps256
 go_wp2_with fail
 · go_ret
   refine ⟨ret_int ?_, rfl⟩
   have h1 : 256 ≤ x := by omega
   have h2 : x / 256 = 1 := by omega
   rw [log2_high h1 hx, len8tab_get (x / 256) _, h2, show bitLen 1 = 1 by decide +kernel]
   unfold wrap64
   omega
 · go_ret
   refine ⟨ret_int ?_, rfl⟩
   have h1 : x < 256 := by omega
   rw [len8tab_get x _, bits_low _ (bitLen_le8 x h1), bitLen, if_neg (by omega)]
set_option maxHeartbeats 2000000
theorem hashes_no {w : Int} {l : List ByteArray} {k : Nat} (hk : k < l.length) (h : ((l[k].size : Int) == w) = false) : hashes w l = false := by
 rw [hashes, List.all_eq_false]
 exact ⟨l[k], List.getElem_mem hk, by simpa using h⟩
theorem hashes_up {w : Int} {l : List ByteArray} (h : ∀ k (hk : k < l.length), ((l[k].size : Int) == w) = true) : hashes w l = true := by
 rw [hashes, List.all_eq_true]
 intro x hx
 obtain ⟨k, hk, rfl⟩ := List.getElem_of_mem hx
 exact h k hk
theorem areHashes_any (n : Int) (A : Option Addr) (c : Nat) (l : List ByteArray) (w : World) (hr : ReadsL w w.heap.size sone 1 A l) (hl : l.length ≤ 1048576) :
 Calls Tryz.prog 137 #[.int .i64 n, .slice A l.length c] w fun e w' => e = .returned (.bool (hashes n l)) ∧ Ext w w' := by
 go_enter Tryz.func137, Tryz.ntmps137
 go_wp2_with fail
 go_loopw [6, 9] (fun _ i wr => ∃ (k : Nat), k ≤ l.length ∧ i = .int .i64 k ∧ (∀ j (hj : j < l.length), j < k → ((l[j].size : Int) == n) = true) ∧ Ext w wr) (fun _ i _ => l.length - (intOf i).toNat)
 case atStart => exact ⟨0, Nat.zero_le _, rfl, fun j _ h => absurd h (Nat.not_lt_zero _), Below.refl _ _⟩
 case round =>
  obtain ⟨k, hk, rfl, hall, he⟩ := hrel
  have Hall := hU hall; clear hall
  by_cases hlt : k < l.length
  · obtain ⟨b, off, rfl, hb, hc⟩ := Reads.at_ (hr.ext he) (k := k) hlt
    have hdl : l[k]? = some l[k] := List.getElem?_eq_getElem hlt
    have c0 := hc 0 _ (flat_at _ 1 sone_length l k 0 _ hdl (by omega))
    rw [Nat.add_zero, Nat.mul_one] at c0
    clear hc hdl
    cases b1 : ((l[k].size : Int) == n)
    · have E := hU (hashes_no hlt b1)
      generalize l[k] = x at *
      go_wp2_with fail
      go_ret
      exact ⟨ret_bool E.out.symm, he⟩
    · have Hn : Hid (∀ j (hj : j < l.length), j < k + 1 → ((l[j].size : Int) == n) = true) := hU (fun j hj h => by
       rcases Nat.lt_or_ge j k with h1 | h1
       · exact Hall.out j hj h1
       · obtain rfl : j = k := by omega
         exact b1)
      clear Hall
      generalize l[k] = x at *
      go_wp2_with fail
      go_roundw
      case rel => exact ⟨k + 1, by omega, by go_num, Hn.out, he⟩
      case measure => simp [intOf]; omega
  · have E := hU (hashes_up (fun j hj => Hall.out j hj (by omega)))
    go_wp2_with fail
    go_ret
    exact ⟨ret_bool E.out.symm, he⟩
theorem Len_any (x : Nat) (w : World) (h0 : 0 < x) (hx : x < 512) : Calls Tryz.prog 214 #[.int .u64 (x : Int)] w fun e w' => e = .returned (.int .i64 ((Nat.log2 x + 1 : Nat) : Int)) ∧ w = w' := by
 go_enter Tryz.func214, Tryz.ntmps214
 go_wp2_with (go_at_call 256; refine (Len64_any x _ h0 hx).mono ?_; rintro e w' ⟨rfl, rfl⟩)
 go_ret
 exact ⟨rfl, rfl⟩
theorem HalfOf_any (n : Nat) (w : World) (h0 : 2 ≤ n) (h1 : n ≤ 512) : Calls Tryz.prog 138 #[.int .i64 (n : Int)] w fun e w' => e = .returned (.int .i64 (half n : Int)) ∧ w = w' := by
 have hin : inR (n : Int) 2 512 = true := by simp [inR]; omega
 have hl : Nat.log2 (n - 1) < 9 := (Nat.log2_lt (by omega)).2 (by omega)
 have e1 : (n : Int) - 1 = ((n - 1 : Nat) : Int) := by omega
 unfold half
 have HL := fun (x : Nat) (w : World) (hx : x = n - 1) (k : Nat) (hk : k = Nat.log2 (n - 1)) => show Calls Tryz.prog 214 #[.int .u64 (x : Int)] w fun e w' => e = .returned (.int .i64 ((k + 1 : Nat) : Int)) ∧ w = w' by
  subst hx; subst hk; exact Len_any (n - 1) w (by omega) (by omega)
 have HL := fun w => HL (n - 1) w rfl _ rfl
 generalize Nat.log2 (n - 1) = k at hl HL ⊢
 have HL := hU HL
 have hc : k = 0 ∨ k = 1 ∨ k = 2 ∨ k = 3 ∨ k = 4 ∨ k = 5 ∨ k = 6 ∨ k = 7 ∨ k = 8 := by omega
 rcases hc with rfl | rfl | rfl | rfl | rfl | rfl | rfl | rfl | rfl
 all_goals
  go_enter Tryz.func138, Tryz.ntmps138
  go_wp2_with (first | (go_at_call 117; refine (inRange_any _ _ _ _).mono ?_; rintro e w' ⟨rfl, rfl⟩; rw [hin]) | (go_at_call 214; refine (HL.out _).mono ?_; rintro e w' ⟨rfl, rfl⟩))
  go_ret
  exact ⟨rfl, rfl⟩
set_option maxHeartbeats 1000000
theorem node_any (n : Int) (a b : ByteArray) (w : World) (ha : a.size ≤ 1000) (hb : b.size ≤ 1000) : Calls Tryz.prog 139 #[.int .i64 n, .string a, .string b] w fun e w' => e = .returned (.string (nodeT n (a ++ b))) ∧ Ext w w' := by
 have hs : (a ++ b).size ≤ maxLen := by rw [ByteArray.size_append]; unfold maxLen; omega
 go_enter Tryz.func139, Tryz.ntmps139
 go_wp2_with fail
 refine (Digest_any n 1 (a ++ b) _ hs).mono ?_
 rintro e w1 ⟨rfl, h1⟩
 go_wp2_with fail
 go_ret
 exact ⟨rfl, h1⟩
end Go.Proofs.YtgeengkdgdjcjaaGreat
