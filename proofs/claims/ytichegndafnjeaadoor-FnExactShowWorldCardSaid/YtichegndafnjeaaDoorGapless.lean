/-
  Gapless: walks. Written by program (gen_gap.py). No condition.
-/
import Derived.Test.YtichegndafnjeaaDoorTypes
import Derived.Test.YtichegndafnjeaaDoorName
namespace Go.Proofs.YtichegndafnjeaaDoor
set_option linter.unusedSimpArgs false
open Go.RowKit
set_option linter.unusedVariables false

/-- Is it one's, and of a topic? -/
def ofWho (x : GivenD) (who : Int) (topic : ByteArray) : Bool := (x.who == who) && (x.entry.topic.toList == topic.toList)
def gap (who : Int) (topic : ByteArray) : Nat → Int → List GivenD → Bool
  | _, _, [] => true
  | n, last, x :: xs => if ofWho x who topic = true then (if x.entry.index = n ∧ (n = 0 ∨ last < x.leaf) then gap who topic (n + 1) x.leaf xs else false) else gap who topic n last xs
theorem gap_zero (who : Int) (topic : ByteArray) (a b : Int) : ∀ l : List GivenD, gap who topic 0 a l = gap who topic 0 b l
  | [] => rfl
  | x :: xs => by
    simp only [gap]
    split
    · simp
    · exact gap_zero who topic a b xs
def gaplessB (l : List GivenD) (who : Int) (topic : ByteArray) : Bool := decide (l.length ≤ 200) && gap who topic 0 0 l
def GapInv (l : List GivenD) (who : Int) (topic : ByteArray) (fin : Bool) (k n : Nat) (last : Int) : Prop := n ≤ k ∧ gap who topic n last (l.drop k) = fin
section
variable {l : List GivenD} {who : Int} {topic : ByteArray} {fin : Bool} {k n : Nat} {last : Int}
theorem GapInv.done (h : GapInv l who topic fin k n last) (hk : l.length ≤ k) : fin = true := by
  obtain ⟨_, h⟩ := h
  rw [List.drop_eq_nil_of_le hk] at h
  simpa [gap] using h.symm
theorem GapInv.other (h : GapInv l who topic fin k n last) (hk : k < l.length) (ho : ofWho l[k] who topic = false) : GapInv l who topic fin (k + 1) n last := by
  obtain ⟨h0, h⟩ := h
  rw [List.drop_eq_getElem_cons hk] at h
  simp only [gap, ho] at h
  exact ⟨by omega, by simpa using h⟩
theorem GapInv.bad (h : GapInv l who topic fin k n last) (hk : k < l.length) (ho : ofWho l[k] who topic = true) (hb : ¬ (l[k].entry.index = n ∧ (n = 0 ∨ last < l[k].leaf))) : fin = false := by
  obtain ⟨h0, h⟩ := h
  rw [List.drop_eq_getElem_cons hk] at h
  simp only [gap, ho, if_true, if_neg hb] at h
  exact h.symm
theorem GapInv.good (h : GapInv l who topic fin k n last) (hk : k < l.length) (ho : ofWho l[k] who topic = true) (hb : l[k].entry.index = n ∧ (n = 0 ∨ last < l[k].leaf)) : GapInv l who topic fin (k + 1) (n + 1) l[k].leaf := by
  obtain ⟨h0, h⟩ := h
  rw [List.drop_eq_getElem_cons hk] at h
  simp only [gap, ho, if_true, if_pos hb] at h
  exact ⟨by omega, h⟩
end

end Go.Proofs.YtichegndafnjeaaDoor
