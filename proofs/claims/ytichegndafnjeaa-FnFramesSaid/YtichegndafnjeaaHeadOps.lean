/-
  Heads: what is a right one, forks, comparing: walks. No condition.
-/
import Derived.Test.YtichegndafnjeaaSpecDigest
import Derived.Test.YtichegndafnjeaaEqs
namespace Go.Proofs.Ytichegndafnjeaa
open Go.RowKit
set_option linter.unusedVariables false

def emptyR (n : Int) : ByteArray := digest n 5 ⟨#[]⟩
theorem emptyOk (n : Int) : digestOk n 5 ⟨#[]⟩ = inR n 1 32 := by
  have h1 : inR 5 0 255 = true := rfl
  have h2 : decide ((⟨#[]⟩ : ByteArray).size ≤ 4000) = true := rfl
  simp only [digestOk, h1, h2, Bool.and_true]
theorem specEmptyRoot_any (n : Int) (w : World) : Calls Try.prog 102 #[.int .i64 n] w fun e w' => e = .returned (.tuple #[.string (emptyR n), .bool (inR n 1 32)]) ∧ Ext w w' := by
  go_enter Try.func102, Try.ntmps102
  go_wp2_with fail
  refine (specDigest_any n 5 ⟨#[]⟩ _ (by decide)).mono ?_
  rintro e w1 ⟨rfl, h1⟩
  rw [emptyOk]
  go_wp2_with fail
  go_ret2
  exact ⟨rfl, h1⟩
theorem EmptyRoot_any (n : Int) (w : World) : Calls Try.prog 168 #[.int .i64 n] w fun e w' => e = .returned (.tuple #[.string (emptyR n), .bool (inR n 1 32)]) ∧ Ext w w' := by
  go_enter Try.func168, Try.ntmps168
  go_wp2_with fail
  refine (Digest_any n 5 ⟨#[]⟩ _ (by decide)).mono ?_
  rintro e w1 ⟨rfl, h1⟩
  rw [emptyOk]
  go_wp2_with fail
  go_ret2
  exact ⟨rfl, h1⟩
theorem emptyRoot_any (n : Int) (w : World) : Calls Try.prog 151 #[.int .i64 n] w fun e w' => e = .returned (.string (emptyR n)) ∧ Ext w w' := by
  go_enter Try.func151, Try.ntmps151
  go_wp2_with fail
  refine (EmptyRoot_any n _).mono ?_
  rintro e w1 ⟨rfl, h1⟩
  go_wp2_with fail
  go_ret
  exact ⟨rfl, h1⟩
/-- Is a root one of so many leaves? -/
def rootB (n s : Int) (r : ByteArray) : Bool := inR s 0 512 && ((r.size : Int) == n) && (decide (0 < s) || (r.toList == (emptyR n).toList))
def headOk (n : Int) (h : HeadD) : Bool := inR n 1 32 && inR h.number 0 399 && rootB n h.size h.root && rootB n h.taken h.takenRoot
theorem six_cases (p1 p2 p3 p4 p5 p6 : Bool) : p1 = false ∨ (p1 = true ∧ p2 = false) ∨ (p1 = true ∧ p2 = true ∧ p3 = false) ∨ (p1 = true ∧ p2 = true ∧ p3 = true ∧ p4 = false) ∨ (p1 = true ∧ p2 = true ∧ p3 = true ∧ p4 = true ∧ p5 = false) ∨
    (p1 = true ∧ p2 = true ∧ p3 = true ∧ p4 = true ∧ p5 = true ∧ p6 = false) ∨ (p1 = true ∧ p2 = true ∧ p3 = true ∧ p4 = true ∧ p5 = true ∧ p6 = true) := by
  cases p1 <;> cases p2 <;> cases p3 <;> cases p4 <;> cases p5 <;> cases p6 <;> simp
theorem ne_of_beq {a b : Int} {p : Bool} (h : (a == b) = p) : (a != b) = !p := by rw [bne, h]
end Go.Proofs.Ytichegndafnjeaa
