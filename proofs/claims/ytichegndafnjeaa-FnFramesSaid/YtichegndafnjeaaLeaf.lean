/-
  Entries and their texts: walks. No condition.
-/
import Derived.Test.YtichegndafnjeaaReceipts
namespace Go.Proofs.Ytichegndafnjeaa
open Go.RowKit
set_option linter.unusedVariables false

def partsB (t : Int) (k b : ByteArray) : Bool := inR t 0 1000000000 && decide ((k.size : Int) ≤ 40) && decide ((b.size : Int) ≤ 400)
def entryOk (d : EntryD) : Bool := nameOk d.topic && inR d.index 0 511 && partsB d.time d.key d.body
/-- The text of a right entry. -/
def leafT (d : EntryD) : ByteArray := ⟨#[69]⟩ ++ (octB d.topic.size ++ d.topic) ++ (octB (d.index / 256) ++ octB d.index) ++ lowB d.time.toNat 4 ++ (octB d.key.size ++ d.key) ++ (octB ((d.body.size : Int) / 256) ++ octB d.body.size) ++ d.body
def leafText (d : EntryD) : ByteArray := if entryOk d then leafT d else ⟨#[]⟩
theorem partsOk_any (t : Int) (k b : ByteArray) (w : World) (hk : k.size ≤ maxLen) (hb : b.size ≤ maxLen) : Calls Try.prog 116 #[.int .i64 t, .string k, .string b] w fun e w' => e = .returned (.bool (partsB t k b)) ∧ w = w' := by
  unfold maxLen at *
  cases c1 : inR t 0 1000000000
  · go_enter Try.func116, Try.ntmps116
    go_wp2_with (go_at_call 74; refine (inRange_any _ _ _ _).mono ?_; rintro e w' ⟨rfl, rfl⟩)
    go_ret
    exact ⟨by simp [partsB, c1], rfl⟩
  · by_cases c2 : (k.size : Int) ≤ 40
    all_goals
      go_enter Try.func116, Try.ntmps116
      go_wp2_with (go_at_call 74; refine (inRange_any _ _ _ _).mono ?_; rintro e w' ⟨rfl, rfl⟩)
      go_ret
      exact ⟨by first | (simp [partsB, c1, c2]; done) | (simp [partsB, c1]; omega), rfl⟩
theorem EntryOk_any (d : EntryD) (w : World) (hd : d.Ok) : Calls Try.prog 58 #[.agg #[.string d.topic, .int .i64 d.index, .int .i64 d.time, .string d.key, .string d.body]] w fun e w' => e = .returned (.bool (entryOk d)) ∧ Ext w w' := by
  obtain ⟨k0, _, _, k3, k4⟩ := hd
  cases b1 : nameOk d.topic <;> cases b2 : inR d.index 0 511
  all_goals
    go_enter Try.func58, Try.ntmps58
    go_wp2_with (first | (go_at_call 114; refine (NameOk_any _ _ k0).mono ?_; rintro e w' ⟨rfl, rfl⟩) | (go_at_call 115; refine (isIndex_any _ _).mono ?_; rintro e w' ⟨rfl, rfl⟩) | (go_at_call 116; refine (partsOk_any _ _ _ _ k3 k4).mono ?_; rintro e w' ⟨rfl, rfl⟩))
    go_ret
    exact ⟨by simp [entryOk, b1, b2], by go_grown⟩
theorem specEntryOk_any (d : EntryD) (w : World) (hd : d.Ok) : Calls Try.prog 142 #[.agg #[.string d.topic, .int .i64 d.index, .int .i64 d.time, .string d.key, .string d.body]] w fun e w' => e = .returned (.bool (entryOk d)) ∧ Ext w w' := by
  obtain ⟨k0, _, _, k3, k4⟩ := hd
  unfold maxLen at k3 k4
  cases b1 : nameOk d.topic
  · go_enter Try.func142, Try.ntmps142
    go_wp2_with (go_at_call 125; refine (specNameOk_any _ _ k0).mono ?_; rintro e w' ⟨rfl, rfl⟩)
    go_ret
    exact ⟨by simp [entryOk, b1], by go_grown⟩
  · cases b2 : inR d.index 0 511
    · go_enter Try.func142, Try.ntmps142
      go_wp2_with (first | (go_at_call 125; refine (specNameOk_any _ _ k0).mono ?_; rintro e w' ⟨rfl, rfl⟩) | (go_at_call 45; refine (l01In_any _ _ _ _).mono ?_; rintro e w' ⟨rfl, rfl⟩))
      go_ret
      exact ⟨by simp [entryOk, b1, b2], by go_grown⟩
    · cases b3 : inR d.time 0 1000000000
      · go_enter Try.func142, Try.ntmps142
        go_wp2_with (first | (go_at_call 125; refine (specNameOk_any _ _ k0).mono ?_; rintro e w' ⟨rfl, rfl⟩) | (go_at_call 45; refine (l01In_any _ _ _ _).mono ?_; rintro e w' ⟨rfl, rfl⟩))
        go_ret
        exact ⟨by simp [entryOk, partsB, b1, b2, b3], by go_grown⟩
      · by_cases b4 : (d.key.size : Int) ≤ 40
        all_goals
          go_enter Try.func142, Try.ntmps142
          go_wp2_with (first | (go_at_call 125; refine (specNameOk_any _ _ k0).mono ?_; rintro e w' ⟨rfl, rfl⟩) | (go_at_call 45; refine (l01In_any _ _ _ _).mono ?_; rintro e w' ⟨rfl, rfl⟩))
          go_ret
          exact ⟨by first | (simp [entryOk, partsB, b1, b2, b3, b4]; done) | (simp [entryOk, partsB, b1, b2, b3]; omega), by go_grown⟩
theorem ofInts_four (n : Nat) : ofInts [(n : Int) / 16777216 % 256, (n : Int) / 65536 % 256, (n : Int) / 256 % 256, (n : Int) % 256] = lowB n 4 := by
  show _ = octB ((n / 256 ^ 3 : Nat) : Int) ++ (octB ((n / 256 ^ 2 : Nat) : Int) ++ (octB ((n / 256 ^ 1 : Nat) : Int) ++ (octB ((n / 256 ^ 0 : Nat) : Int) ++ ⟨#[]⟩)))
  rw [append_nil]
  have e : ((n / 256 ^ 3 : Nat) : Int) = (n : Int) / 16777216 ∧ ((n / 256 ^ 2 : Nat) : Int) = (n : Int) / 65536 ∧ ((n / 256 ^ 1 : Nat) : Int) = (n : Int) / 256 ∧ ((n / 256 ^ 0 : Nat) : Int) = (n : Int) := by
    refine ⟨?_, ?_, ?_, ?_⟩ <;> simp
  rw [e.1, e.2.1, e.2.2.1, e.2.2.2]
  rfl
set_option maxRecDepth 100000 in
theorem WordTextN_any (n : Nat) (w : World) (hn : n < 4294967296) : Calls Try.prog 61 #[.int .u32 (n : Int)] w fun e w' => e = .returned (.string (lowB n 4)) ∧ Ext w w' := by
  have hconv := conv_bytes [(n : Int) / 16777216 % 256, (n : Int) / 65536 % 256, (n : Int) / 256 % 256, (n : Int) % 256] (by intro x hx; simp only [List.mem_cons, List.not_mem_nil, or_false] at hx; omega) w
  rw [ofInts_four] at hconv
  simp only [List.length_cons, List.length_nil, Nat.zero_add, List.map_cons, List.map_nil, Nat.reduceAdd, show (n : Int) / 16777216 % 256 = (n : Int) / 16777216 from by omega] at hconv
  go_enter Try.func61, Try.ntmps61
  go_wp2_with fail
  go_ret
  exact ⟨rfl, by go_grown⟩
theorem WordTextI_any (n : Int) (w : World) (h0 : 0 ≤ n) (hn : n < 4294967296) : Calls Try.prog 61 #[.int .u32 n] w fun e w' => e = .returned (.string (lowB n.toNat 4)) ∧ Ext w w' := by
  obtain ⟨m, rfl⟩ := Int.eq_ofNat_of_zero_le h0
  rw [Int.toNat_natCast]
  exact WordTextN_any m w (by omega)
end Go.Proofs.Ytichegndafnjeaa
