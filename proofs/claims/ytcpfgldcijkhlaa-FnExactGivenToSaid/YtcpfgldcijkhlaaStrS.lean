/-
  The laws' own functions at lists of strings: walks. No condition.
-/
import Derived.Test.YtcpfgldcijkhlaaUnfr
namespace Go.Proofs.Ytcpfgldcijkhlaa
open Go.RowKit
set_option linter.unusedVariables false

theorem OwnS.reads {W w : World} {v : Value} {l : List ByteArray} (h : OwnS W w v l) : ∃ A c, v = .slice A l.length c ∧ Reads w w.heap.size 1 A l.length (svals l) := by
  obtain ⟨A, c, rfl, _⟩ := ownsRow_form h
  exact ⟨A, c, rfl, Reads.of_own h⟩
theorem svals_at {l : List ByteArray} {k : Nat} (hk : k < l.length) : (svals l)[k * 1 + 0]? = some (.string l[k]) := by
  simp [svals, List.getElem?_eq_getElem hk]
set_option maxHeartbeats 1000000 in
set_option maxRecDepth 100000 in
theorem eqStringS_same (A A' : Option Addr) (c c' : Nat) (l : List ByteArray) (w : World) (hr : Reads w w.heap.size 1 A l.length (svals l)) (hr' : Reads w w.heap.size 1 A' l.length (svals l)) (hl : l.length ≤ 1048576) :
    Calls Try.prog 211 #[.slice A l.length c, .slice A' l.length c'] w fun e w' => e = .returned (.bool true) ∧ Ext w w' := by
  go_enter Try.func211, Try.ntmps211
  go_wp2
  go_loopw [5] (fun i wr => ∃ (k : Nat), k ≤ l.length ∧ i = .int .i64 k ∧ Ext w wr) (fun i _ => l.length - (intOf i).toNat)
  case atStart => exact ⟨0, Nat.zero_le _, rfl, Below.refl _ _⟩
  case round =>
    obtain ⟨k, hk, rfl, he⟩ := hrel
    by_cases hlt : k < l.length
    · obtain ⟨b, off, rfl, hb, hc⟩ := (hr.below he).at_ (k := k) hlt
      obtain ⟨b', off', rfl, hb', hc'⟩ := (hr'.below he).at_ (k := k) hlt
      have c0 := hc 0 _ (svals_at hlt)
      have b0 := hc' 0 _ (svals_at hlt)
      rw [Nat.add_zero, Nat.mul_one] at c0 b0
      obtain ⟨x, hx⟩ : ∃ x, x = l[k] := ⟨_, rfl⟩
      rw [← hx] at c0 b0
      clear hc hc' hx
      have z0 : (0 : Int) ≤ (k : Int) := by omega
      have z1 : (k : Int) < (l.length : Int) := by omega
      go_wp2_with fail
      go_quiet (fail)
      go_wp2_with fail
      go_roundw
      case rel => exact ⟨k + 1, by omega, by go_num, he.drewN _⟩
      case measure => simp [intOf]; omega
    · go_wp2_with fail
      go_ret
      exact ⟨rfl, he⟩
end Go.Proofs.Ytcpfgldcijkhlaa
