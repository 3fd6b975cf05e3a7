/-
  markText: walk. No condition.
-/
import Derived.Test.YtcpfgldcijkhlaaStrS
namespace Go.Proofs.Ytcpfgldcijkhlaa
open Go.RowKit
set_option linter.unusedVariables false

/-- The digits of a number ahead of a text. -/
def decB : Nat → Nat → ByteArray → ByteArray
  | 0, _, t => t
  | f + 1, k, t => if k = 0 then t else decB f (k / 10) (ofInts [48 + (k : Int) % 10] ++ t)
def markB (k : Nat) : ByteArray := if k = 0 then ⟨#[109, 48]⟩ else ⟨#[109]⟩ ++ decB k k ⟨#[]⟩
theorem decB_size : ∀ (f k : Nat) (t : ByteArray), k ≤ f → (decB f k t).size ≤ t.size + k
  | 0, k, t, h => by rw [decB]; omega
  | f + 1, k, t, h => by
    rw [decB]
    split
    · omega
    · have := decB_size f (k / 10) (ofInts [48 + (k : Int) % 10] ++ t) (by omega)
      rw [ByteArray.size_append, show (ofInts [48 + (k : Int) % 10]).size = 1 from rfl] at this
      omega
set_option maxHeartbeats 1000000 in
set_option maxRecDepth 100000 in
theorem markText_any (n : Nat) (w : World) (hn : n ≤ 1099511627776) : Calls Try.prog 98 #[.int .i64 (n : Int)] w fun e w' => e = .returned (.string (markB n)) ∧ Ext w w' := by
  by_cases h0 : n = 0
  · subst h0
    go_enter Try.func98, Try.ntmps98
    go_wp2_with fail
    go_ret
    exact ⟨rfl, Below.refl _ _⟩
  have E := Lib.hid (show markB n = ⟨#[109]⟩ ++ decB n n ⟨#[]⟩ by rw [markB, if_neg h0])
  go_enter Try.func98, Try.ntmps98
  go_wp2_with fail
  go_loopw [0, 3] (fun sn st wr => ∃ (k f : Nat) (t : ByteArray), sn = .int .i64 k ∧ st = .string t ∧ k ≤ f ∧ t.size + k ≤ n ∧ Hid (decB f k t = decB n n ⟨#[]⟩) ∧ Ext w wr) (fun sn _ _ => (intOf sn).toNat)
  case atStart => exact ⟨n, n, ⟨#[]⟩, rfl, rfl, Nat.le_refl _, by show 0 + n ≤ n; omega, Lib.hid rfl, Below.refl _ _⟩
  case round =>
    obtain ⟨k, f, t, rfl, rfl, hkf, hs, eq, he⟩ := hrel
    by_cases hlt : 0 < k
    · have hconv := conv_bytes [48 + (k : Int) % 10] (by intro x hx; simp only [List.mem_singleton] at hx; subst hx; omega) wr
      simp only [List.length_cons, List.length_nil, Nat.zero_add, List.map_cons, List.map_nil] at hconv
      obtain ⟨d, hd⟩ : ∃ d, d = ofInts [48 + (k : Int) % 10] := ⟨_, rfl⟩
      have hz : d.size = 1 := by rw [hd]; rfl
      rw [← hd] at hconv
      have E1 : Hid (decB (f - 1) (k / 10) (d ++ t) = decB n n ⟨#[]⟩) := Lib.hid (by
        rw [← eq.out, hd]
        obtain ⟨g, rfl⟩ : ∃ g, f = g + 1 := ⟨f - 1, by omega⟩
        rw [decB, if_neg (by omega)]; rfl)
      have E2 : (d ++ t).size + k / 10 ≤ n := by rw [ByteArray.size_append]; omega
      have n1 : ¬ 9223372036854775807 < d.size + t.size := by omega
      clear hd
      go_wp2_with fail
      go_roundw
      case rel => exact ⟨k / 10, f - 1, _, by go_num, rfl, by omega, E2, E1, he.new _⟩
      case measure => simp [intOf]; omega
    · have E1 : Hid (t = decB n n ⟨#[]⟩) := Lib.hid (by
        rw [← eq.out]
        obtain rfl : k = 0 := by omega
        cases f <;> simp [decB])
      have n1 : ¬ 9223372036854775807 < 1 + t.size := by omega
      go_wp2_with fail
      go_ret
      exact ⟨ret_str (by rw [E.out, ← E1.out]), he⟩
end Go.Proofs.Ytcpfgldcijkhlaa
