/-
  Names: plain, and walks of both sides. No condition.
-/
import Derived.Test.YtkcjhfidgnbdiaaName
import Derived.Test.YtkcjhfidgnbdiaaNString
namespace Go.Proofs.Ytkcjhfidgnbdiaa
set_option linter.unusedSimpArgs false
open Go.RowKit
set_option linter.unusedVariables false

/-- Is none of the first k names the name x? -/
def freshTo (l : List ByteArray) (x : ByteArray) : Nat → Bool
  | 0 => true
  | k + 1 => freshTo l x k && !((l.getD k ⟨#[]⟩).toList == x.toList)
/-- Are the first i names right, and each unlike those ahead of it? -/
def namesTo (l : List ByteArray) : Nat → Bool
  | 0 => true
  | i + 1 => namesTo l i && (nameOk (l.getD i ⟨#[]⟩) && freshTo l (l.getD i ⟨#[]⟩) i)
def namesB (l : List ByteArray) : Bool := inR l.length 1 4 && namesTo l l.length
theorem namesTo_less {l : List ByteArray} {i : Nat} (h : namesTo l i = false) : ∀ n, i ≤ n → namesTo l n = false
  | 0, hn => by obtain rfl : i = 0 := by omega
                exact h
  | n + 1, hn => by
    by_cases e : i = n + 1
    · rw [← e]; exact h
    · rw [namesTo, namesTo_less h n (by omega), Bool.false_and]
theorem freshTo_less {l : List ByteArray} {x : ByteArray} {k : Nat} (h : freshTo l x k = false) : ∀ n, k ≤ n → freshTo l x n = false
  | 0, hn => by obtain rfl : k = 0 := by omega
                exact h
  | n + 1, hn => by
    by_cases e : k = n + 1
    · rw [← e]; exact h
    · rw [freshTo, freshTo_less h n (by omega), Bool.false_and]
theorem namesTo_bad {l : List ByteArray} {i : Nat} (hi : i < l.length) (h : nameOk l[i] = false ∨ freshTo l l[i] i = false) : namesTo l l.length = false := by
  refine namesTo_less (i := i + 1) ?_ _ hi
  have e : l.getD i ⟨#[]⟩ = l[i] := by simp [hi]
  rw [namesTo, e]
  rcases h with h | h <;> simp [h]
theorem namesTo_good {l : List ByteArray} {i : Nat} (hi : i < l.length) (h0 : namesTo l i = true) (h1 : nameOk l[i] = true) (h2 : freshTo l l[i] i = true) : namesTo l (i + 1) = true := by
  have e : l.getD i ⟨#[]⟩ = l[i] := by simp [hi]
  rw [namesTo, e, h0, h1, h2]; rfl
set_option maxHeartbeats 1000000 in
theorem index_any (A : Option Addr) (n c : Nat) (l : List ByteArray) (c' : Nat) (x : ByteArray) (w : World) (hr : SlF AnyB sone 1 w A l c') (hn : n ≤ l.length) (hc0 : n ≤ c) :
    Calls Try.prog 102 #[.slice A n c, .string x] w fun e w' => (∃ m : Int, e = .returned (.int .i64 m) ∧ decide (0 ≤ m) = !freshTo l x n) ∧ w = w' := by
  have hm := hr.len
  unfold maxLen at hm
  go_enter Try.func102, Try.ntmps102
  go_wp2
  go_loopw [8] (fun i wr => ∃ k : Nat, k ≤ n ∧ i = .int .i64 k ∧ freshTo l x k = true ∧ wr = w) (fun i _ => n - (intOf i).toNat)
  case atStart => exact ⟨0, Nat.zero_le _, rfl, rfl, rfl⟩
  case round =>
    obtain ⟨k, hk, rfl, hi, rfl⟩ := hrel
    by_cases hlt : k < n
    · obtain ⟨b, off, rfl, hb, hc⟩ := Reads.at_ hr.reads (k := k) (by omega)
      obtain ⟨d, hd⟩ : ∃ d, d = l[k]'(by omega) := ⟨_, rfl⟩
      have hdl : l[k]? = some d := by rw [hd]; exact List.getElem?_eq_getElem (by omega)
      have c0 := hc 0 _ (flat_at _ 1 sone_length l k 0 d hdl (by omega))
      rw [Nat.add_zero, Nat.mul_one] at c0
      have hg : l.getD k ⟨#[]⟩ = d := by simp [hdl]
      have Hs := Lib.hid (show freshTo l x (k + 1) = (freshTo l x k && !(d.toList == x.toList)) by rw [freshTo, hg])
      have Hi := Lib.hid hi
      have Hc : Hid ((d.toList == x.toList) = (x.toList == d.toList)) := Lib.hid (Bool.beq_comm ..)
      have kb : k + 1 ≤ 9223372036854775807 := by omega
      clear hc hd hdl hg hr hi hn
      cases q : (x.toList == d.toList)
      · have E := Lib.hid (show freshTo l x (k + 1) = true by rw [Hs.out, Hi.out, Hc.out, q]; rfl)
        clear Hs Hc
        go_wp2_with fail
        go_roundw
        case rel => exact ⟨k + 1, by omega, by go_num, E.out, trivial⟩
        case measure => simp [intOf]; omega
      · have E := Lib.hid (show freshTo l x n = false from freshTo_less (k := k + 1) (by rw [Hs.out, Hi.out, Hc.out, q]; rfl) n hlt)
        clear Hs Hc
        go_wp2_with fail
        go_ret
        exact ⟨⟨_, rfl, by rw [E.out]; simp⟩, rfl⟩
    · have E := Lib.hid (show freshTo l x n = true by rw [show n = k by omega]; exact hi)
      clear hi
      go_wp2_with fail
      go_ret
      exact ⟨⟨_, rfl, by rw [E.out]; simp⟩, rfl⟩
theorem contains_any (A : Option Addr) (n c : Nat) (l : List ByteArray) (c' : Nat) (x : ByteArray) (w : World) (hr : SlF AnyB sone 1 w A l c') (hn : n ≤ l.length) (hc0 : n ≤ c) :
    Calls Try.prog 81 #[.slice A n c, .string x] w fun e w' => e = .returned (.bool (!freshTo l x n)) ∧ w = w' := by
  go_enter Try.func81, Try.ntmps81
  go_wp2_with fail
  refine (index_any A n c l c' x w hr hn hc0).mono ?_
  rintro e w' ⟨⟨m, rfl, hm⟩, rfl⟩
  go_wp2_with fail
  go_ret
  exact ⟨by rw [← hm]; rfl, rfl⟩
end Go.Proofs.Ytkcjhfidgnbdiaa
