/-
  The texts of entries and receipts: walks. No condition.
-/
import Derived.Test.YtichegndafnjeaaReader
import Derived.Test.YtichegndafnjeaaTypes
namespace Go.Proofs.Ytichegndafnjeaa
open Go.RowKit
set_option linter.unusedVariables false

/-- The text of bytes that are told as numbers. -/
def ofInts (ns : List Int) : ByteArray := ⟨(ns.map fun x => UInt8.ofNat x.toNat).toArray⟩
theorem conv_bytes (ns : List Int) (h : ∀ x ∈ ns, 0 ≤ x ∧ x < 256) (w : World) :
    (convert 22 9 (.slice (some ⟨w.heap.size, 0, none⟩) ns.length ns.length)).run Try.prog (w.alloc (.cells (ns.map (Value.int .u8)).toArray 5)) =
      .ok (.string (ofInts ns)) (w.alloc (.cells (ns.map (Value.int .u8)).toArray 5)) := by
  have hb := Blk.new w 5 (ns.map (Value.int .u8)).toArray
  have h0 := run_convert_bytes_back (P := Try.prog) (w.alloc (.cells (ns.map (Value.int .u8)).toArray 5)) 22 9 5 ⟨w.heap.size, 0, none⟩ ns.length (ns.map fun x => UInt8.ofNat x.toNat)
    Try.underlying22 Try.underlying5 Try.underlying9 (fun j hj => by
      rw [add_mk, Nat.zero_add, hb.cell]
      have hj' : j < ns.length := by simpa using hj
      obtain ⟨h1, h2⟩ := h ns[j] (List.getElem_mem hj')
      simp only [List.getElem?_toArray, List.getElem?_map, List.getElem?_eq_getElem hj', Option.map_some, List.getElem_map, Option.some.injEq, Value.int.injEq, true_and]
      rw [UInt8.toNat_ofNat_of_lt' (by show ns[j].toNat < 256; omega)]
      omega)
  simp only [List.length_map] at h0
  exact h0
/-- A number in one byte. -/
def octB (n : Int) : ByteArray := ofInts [n % 256]
set_option maxRecDepth 100000 in
theorem octet_any (n : Int) (w : World) : Calls Try.prog 117 #[.int .i64 n] w fun e w' => e = .returned (.string (octB n)) ∧ Ext w w' := by
  have hconv := conv_bytes [n % 256] (by intro x hx; simp only [List.mem_singleton] at hx; subst hx; omega) w
  simp only [List.length_cons, List.length_nil, Nat.zero_add, List.map_cons, List.map_nil] at hconv
  go_enter Try.func117, Try.ntmps117
  go_wp2_with fail
  go_ret
  exact ⟨rfl, by go_grown⟩
theorem octB_size (n : Int) : (octB n).size = 1 := rfl
theorem pair_any (n : Int) (w : World) (h0 : 0 ≤ n) (h1 : n ≤ 65535) : Calls Try.prog 60 #[.int .i64 n] w fun e w' => e = .returned (.string (octB (n / 256) ++ octB n)) ∧ Ext w w' := by
  go_enter Try.func60, Try.ntmps60
  go_wp2_with fail
  refine (octet_any _ _).mono ?_
  rintro e w1 ⟨rfl, he⟩
  go_wp2_with fail
  refine (octet_any _ _).mono ?_
  rintro e w2 ⟨rfl, h1⟩
  replace he := he.next h1
  go_wp2_with fail
  go_ret
  exact ⟨rfl, he⟩
theorem shortS_any (s : ByteArray) (w : World) (hs : s.size ≤ 1099511627776) : Calls Try.prog 59 #[.string s] w fun e w' => e = .returned (.string (octB s.size ++ s)) ∧ Ext w w' := by
  have hz : (octB (s.size : Int)).size ≤ 1 := by rw [octB_size]; exact Nat.le_refl _
  go_enter Try.func59, Try.ntmps59
  go_wp2_with fail
  refine (octet_any _ _).mono ?_
  rintro e w1 ⟨rfl, he⟩
  go_wp2_with fail
  go_ret
  exact ⟨rfl, he⟩
/-- The lowest i bytes of a number, the highest first. -/
def lowB (n : Nat) : Nat → ByteArray
  | 0 => ⟨#[]⟩
  | i + 1 => octB ((n / 256 ^ i : Nat) : Int) ++ lowB n i
theorem lowB_size (n : Nat) : ∀ i, (lowB n i).size = i
  | 0 => rfl
  | i + 1 => by rw [lowB, ByteArray.size_append, octB_size, lowB_size n i, Nat.add_comm]
set_option maxHeartbeats 1000000 in
set_option maxRecDepth 100000 in
theorem l03Number_any (n b : Nat) (w : World) (hn : n ≤ 1099511627776) (hb : b ≤ 16) : Calls Try.prog 118 #[.int .i64 (n : Int), .int .i64 (b : Int)] w fun e w' => e = .returned (.string (lowB n b)) ∧ Ext w w' := by
  have Hs := Lib.hid (lowB_size n)
  go_enter Try.func118, Try.ntmps118
  go_wp2_with fail
  go_loopw [0, 5, 6] (fun sn st i wr => ∃ (k q : Nat) (t : ByteArray), k ≤ b ∧ i = .int .i64 k ∧ sn = .int .i64 q ∧ st = .string t ∧ q ≤ 1099511627776 ∧ t.size ≤ 16 ∧ Hid (q = n / 256 ^ k) ∧ Hid (t = lowB n k) ∧ Ext w wr) (fun _ _ i _ => b - (intOf i).toNat)
  case atStart => exact ⟨0, n, ⟨#[]⟩, Nat.zero_le _, rfl, rfl, rfl, hn, by decide, Lib.hid (by simp), Lib.hid rfl, Below.refl _ _⟩
  case round =>
    obtain ⟨k, q, t, hk, rfl, rfl, rfl, hq, ht, eq, et, he⟩ := hrel
    by_cases hlt : k < b
    · have hconv := conv_bytes [(q : Int) % 256] (by intro x hx; simp only [List.mem_singleton] at hx; subst hx; omega) wr
      simp only [List.length_cons, List.length_nil, Nat.zero_add, List.map_cons, List.map_nil] at hconv
      have ho : ofInts [(q : Int) % 256] = octB q := rfl
      rw [ho] at hconv
      clear ho
      have hz : (octB (q : Int)).size ≤ 1 := by rw [octB_size]; exact Nat.le_refl _
      have E1 := Lib.hid (show q / 256 = n / 256 ^ (k + 1) by rw [eq.out, Nat.div_div_eq_div_mul, ← Nat.pow_succ])
      have E2 := Lib.hid (show octB (q : Int) ++ t = lowB n (k + 1) by rw [et.out, eq.out]; rfl)
      have E3 : (octB (q : Int) ++ t).size ≤ 16 := by rw [E2.out, Hs.out]; omega
      go_wp2_with fail
      go_roundw
      case rel => exact ⟨k + 1, q / 256, _, by omega, by go_num, by go_num, rfl, by omega, E3, E1, E2, he.new _⟩
      case measure => simp [intOf]; omega
    · have E : Hid (t = lowB n b) := by
        obtain rfl : k = b := by omega
        exact et
      go_wp2_with fail
      go_ret
      exact ⟨ret_str E.out, he⟩
theorem append_nil (a : ByteArray) : a ++ ⟨#[]⟩ = a := by
  apply ByteArray.ext
  rw [ByteArray.data_append]
  exact Array.append_empty
theorem lowB_one (n : Nat) : lowB n 1 = octB n := by
  show octB ((n / 256 ^ 0 : Nat) : Int) ++ ⟨#[]⟩ = _
  rw [append_nil]; simp
theorem lowB_two (n : Nat) : lowB n 2 = octB ((n : Int) / 256) ++ octB n := by
  show octB ((n / 256 ^ 1 : Nat) : Int) ++ lowB n 1 = _
  rw [lowB_one]; simp
theorem l03NumberI_any (n : Int) (b : Nat) (w : World) (h0 : 0 ≤ n) (hn : n ≤ 1099511627776) (hb : b ≤ 16) : Calls Try.prog 118 #[.int .i64 n, .int .i64 (b : Int)] w fun e w' => e = .returned (.string (lowB n.toNat b)) ∧ Ext w w' := by
  obtain ⟨m, rfl⟩ := Int.eq_ofNat_of_zero_le h0
  rw [Int.toNat_natCast]
  exact l03Number_any m b w (by omega) hb
theorem l03Short_any (s : ByteArray) (w : World) (hs : s.size ≤ 1099511627776) : Calls Try.prog 162 #[.string s] w fun e w' => e = .returned (.string (lowB s.size 1 ++ s)) ∧ Ext w w' := by
  have hz : (lowB s.size 1).size ≤ 1 := by rw [lowB_size]; exact Nat.le_refl _
  go_enter Try.func162, Try.ntmps162
  go_wp2_with fail
  refine (l03Number_any s.size 1 _ hs (by decide)).mono ?_
  rintro e w1 ⟨rfl, he⟩
  go_wp2_with fail
  go_ret
  exact ⟨rfl, he⟩
end Go.Proofs.Ytichegndafnjeaa
