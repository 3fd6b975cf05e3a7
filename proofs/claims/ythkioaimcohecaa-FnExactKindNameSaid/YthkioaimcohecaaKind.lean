/-
  The names of the kinds of messages: walks, and the law. No condition.
-/
import Derived.Test.YthkioaimcohecaaSmall
namespace Go.Proofs.Ythkioaimcohecaa
open Go.RowKit
set_option linter.unusedVariables false

/-- The bytes of the name of a kind. -/
def kindName (k : Int) : ByteArray :=
  if k = 1 then ⟨#[97, 115, 107, 45, 104, 101, 97, 100]⟩
  else if k = 2 then ⟨#[116, 101, 108, 108, 45, 104, 101, 97, 100]⟩
  else if k = 3 then ⟨#[97, 115, 107, 45, 101, 110, 116, 114, 121]⟩
  else if k = 4 then ⟨#[116, 101, 108, 108, 45, 101, 110, 116, 114, 121]⟩
  else if k = 5 then ⟨#[97, 115, 107, 45, 108, 101, 97, 102]⟩
  else if k = 6 then ⟨#[103, 105, 118, 101, 45, 114, 101, 99, 101, 105, 112, 116]⟩
  else if k = 7 then ⟨#[116, 111, 111, 107, 45, 114, 101, 99, 101, 105, 112, 116]⟩
  else if k = 8 then ⟨#[97, 115, 107, 45, 97, 117, 100, 105, 116]⟩
  else if k = 9 then ⟨#[116, 101, 108, 108, 45, 97, 117, 100, 105, 116]⟩
  else if k = 10 then ⟨#[97, 115, 107, 45, 112, 114, 111, 111, 102]⟩
  else if k = 11 then ⟨#[116, 101, 108, 108, 45, 112, 114, 111, 111, 102]⟩
  else if k = 12 then ⟨#[114, 101, 102, 117, 115, 101]⟩
  else ⟨#[]⟩

theorem kindName_out (k : Int) (h : k < 1 ∨ 12 < k) : kindName k = ⟨#[]⟩ := by
  unfold kindName
  rw [if_neg (by omega), if_neg (by omega), if_neg (by omega), if_neg (by omega), if_neg (by omega), if_neg (by omega), if_neg (by omega), if_neg (by omega), if_neg (by omega), if_neg (by omega), if_neg (by omega), if_neg (by omega)]

theorem implKindName_any (k : Int) (w : World) : Calls Try.prog 16 #[.int .i64 k] w fun e w' => e = .returned (.string (kindName k)) ∧ w = w' := by
  go_enter Try.func16, Try.ntmps16
  go_wp2
  all_goals
    go_ret
    refine ⟨?_, rfl⟩
    simp_all [kindName]

def kindCells : Array Value := #[.string ⟨#[]⟩, .string (kindName 1), .string (kindName 2), .string (kindName 3), .string (kindName 4), .string (kindName 5), .string (kindName 6), .string (kindName 7), .string (kindName 8), .string (kindName 9), .string (kindName 10), .string (kindName 11), .string (kindName 12)]
theorem kindCells_at (k : Int) (h0 : 0 ≤ k) (h1 : k < 13) : kindCells[k.toNat]? = some (.string (kindName k)) := by
  have h : k = 0 ∨ k = 1 ∨ k = 2 ∨ k = 3 ∨ k = 4 ∨ k = 5 ∨ k = 6 ∨ k = 7 ∨ k = 8 ∨ k = 9 ∨ k = 10 ∨ k = 11 ∨ k = 12 := by omega
  rcases h with rfl | rfl | rfl | rfl | rfl | rfl | rfl | rfl | rfl | rfl | rfl | rfl | rfl <;> rfl
theorem ret_str {a b : ByteArray} (h : a = b) : Ending.returned (.string a) = .returned (.string b) := by rw [h]

theorem specKindName_any (k : Int) (w : World) : Calls Try.prog 15 #[.int .i64 k] w fun e w' => e = .returned (.string (kindName k)) ∧ Ext w w' := by
  by_cases h0 : k < 0
  · go_enter Try.func15, Try.ntmps15
    go_wp2
    go_ret
    exact ⟨ret_str (kindName_out k (by omega)).symm, by go_grown⟩
  · by_cases h1 : 13 ≤ k
    · go_enter Try.func15, Try.ntmps15
      go_wp2
      go_ret
      exact ⟨ret_str (kindName_out k (by omega)).symm, by go_grown⟩
    · have hc : (w.alloc (.cells kindCells 9)).cell? ⟨w.heap.size, k.toNat, none⟩ = some (.string (kindName k)) :=
        ((Blk.new w _ _).cell _).trans (kindCells_at k (by omega) (by omega))
      simp only [kindCells] at hc
      have e1 : kindName 1 = ⟨#[97, 115, 107, 45, 104, 101, 97, 100]⟩ := rfl
      have e2 : kindName 2 = ⟨#[116, 101, 108, 108, 45, 104, 101, 97, 100]⟩ := rfl
      have e3 : kindName 3 = ⟨#[97, 115, 107, 45, 101, 110, 116, 114, 121]⟩ := rfl
      have e4 : kindName 4 = ⟨#[116, 101, 108, 108, 45, 101, 110, 116, 114, 121]⟩ := rfl
      have e5 : kindName 5 = ⟨#[97, 115, 107, 45, 108, 101, 97, 102]⟩ := rfl
      have e6 : kindName 6 = ⟨#[103, 105, 118, 101, 45, 114, 101, 99, 101, 105, 112, 116]⟩ := rfl
      have e7 : kindName 7 = ⟨#[116, 111, 111, 107, 45, 114, 101, 99, 101, 105, 112, 116]⟩ := rfl
      have e8 : kindName 8 = ⟨#[97, 115, 107, 45, 97, 117, 100, 105, 116]⟩ := rfl
      have e9 : kindName 9 = ⟨#[116, 101, 108, 108, 45, 97, 117, 100, 105, 116]⟩ := rfl
      have e10 : kindName 10 = ⟨#[97, 115, 107, 45, 112, 114, 111, 111, 102]⟩ := rfl
      have e11 : kindName 11 = ⟨#[116, 101, 108, 108, 45, 112, 114, 111, 111, 102]⟩ := rfl
      have e12 : kindName 12 = ⟨#[114, 101, 102, 117, 115, 101]⟩ := rfl
      rw [e1, e2, e3, e4, e5, e6, e7, e8, e9, e10, e11, e12] at hc
      clear e1 e2 e3 e4 e5 e6 e7 e8 e9 e10 e11 e12
      go_enter Try.func15, Try.ntmps15
      go_wp2
      go_ret
      exact ⟨rfl, by go_grown⟩

theorem lawKindName_walk (k : Int) (w : World) : Calls Try.prog 3 #[.int .i64 k] w fun e w' => e = .returned (.bool true) ∧ Ext w w' := by
  go_enter Try.func3, Try.ntmps3
  go_wp2_with fail
  refine (specKindName_any _ _).mono ?_
  rintro e w1 ⟨rfl, he⟩
  go_wp2_with fail
  refine (implKindName_any _ _).mono ?_
  rintro e w1 ⟨rfl, rfl⟩
  go_wp2_with fail
  go_ret
  exact ⟨rfl, he⟩
end Go.Proofs.Ythkioaimcohecaa
