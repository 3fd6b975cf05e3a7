/-
  Clients and scanners without cursors, as flat things; words for marking rows of such. No condition.
  Gapless: walks. Written by program (gen_gap.py). No condition.
-/
import Derived.Test.YtkcjhfidgnbdiaaHeadOps
import Derived.Test.YtkcjhfidgnbdiaaScnNew
import Derived.Test.YtkcjhfidgnbdiaaTypes
import Derived.Test.YtkcjhfidgnbdiaaName
namespace Go.Proofs.Ytkcjhfidgnbdiaa
set_option linter.unusedSimpArgs false
open Go.RowKit
set_option linter.unusedVariables false

structure CliZ where
  width : Int
  name : ByteArray
  head : HeadD
def CliZ.cells (d : CliZ) : List Value := [.int .i64 d.width, .string d.name, .int .i64 d.head.number, .int .i64 d.head.size, .string d.head.root, .int .i64 d.head.taken, .string d.head.takenRoot, .slice none 0 0]
theorem CliZ.cells_length (d : CliZ) : d.cells.length = 8 := rfl
structure ScnZ where
  client : CliZ
  leaf : Int
def ScnZ.cells (d : ScnZ) : List Value := [.int .i64 d.client.width, .string d.client.name, .int .i64 d.client.head.number, .int .i64 d.client.head.size, .string d.client.head.root, .int .i64 d.client.head.taken, .string d.client.head.takenRoot, .slice none 0 0, .int .i64 d.leaf, .slice none 0 0]
theorem ScnZ.cells_length (d : ScnZ) : d.cells.length = 10 := rfl
theorem set_get_ne {cs : Array Value} {i j : Nat} {v u : Value} (h : cs[i]? = some u) (hne : j ≠ i) : (cs.setIfInBounds j v)[i]? = some u := by
  rw [Array.getElem?_setIfInBounds_ne hne]; exact h
theorem set_same {cs : Array Value} {i : Nat} {v : Value} (h : cs[i]? = some v) : cs.setIfInBounds i v = cs := by
  apply Array.ext_getElem?
  intro k
  have hi : i < cs.size := (Array.getElem?_eq_some_iff.1 h).1
  rw [Array.getElem?_setIfInBounds]
  by_cases e : i = k
  · subst e; rw [if_pos rfl, if_pos hi, h]
  · rw [if_neg e]
theorem rowAt_behind {α : Type} {f : α → List Value} {size : Nat} {l : List α} {cs : Array Value} {k i : Nat} {v : Value} (hf : ∀ a, (f a).length = size) (hk : k ≤ l.length) (hi : k * size ≤ i) (h : cs[i]? = some v) : (rowAt f size l cs k)[i]? = some v := by
  have hl : ((l.take k).flatMap f).length = k * size := by rw [flat_len f size hf, List.length_take, Nat.min_eq_left hk]
  simp only [rowAt, List.getElem?_toArray]
  rw [List.getElem?_append_right (by omega), hl, List.getElem?_drop, show k * size + (i - k * size) = i by omega]
  simpa using h
end Go.Proofs.Ytkcjhfidgnbdiaa
namespace Go.Proofs.Ytkcjhfidgnbdiaa
set_option linter.unusedSimpArgs false
open Go.RowKit
set_option linter.unusedVariables false

/-- Is it one's, and of a topic? -/
def ofWho (x : GivenD) (who : Int) (topic : ByteArray) : Bool := (x.who == who) && (x.entry.topic.toList == topic.toList)
def gap (who : Int) (topic : ByteArray) : Nat → Int → List GivenD → Bool
  | _, _, [] => true
  | n, last, x :: xs => if ofWho x who topic = true then (if x.entry.index = n ∧ (n = 0 ∨ last < x.leaf) then gap who topic (n + 1) x.leaf xs else false) else gap who topic n last xs
theorem gap_zero (who : Int) (topic : ByteArray) (a b : Int) : ∀ l : List GivenD, gap who topic 0 a l = gap who topic 0 b l
  | [] => rfl
  | x :: xs => by
    simp only [gap]
    split
    · simp
    · exact gap_zero who topic a b xs
def gaplessB (l : List GivenD) (who : Int) (topic : ByteArray) : Bool := decide (l.length ≤ 200) && gap who topic 0 0 l
def GapInv (l : List GivenD) (who : Int) (topic : ByteArray) (fin : Bool) (k n : Nat) (last : Int) : Prop := n ≤ k ∧ gap who topic n last (l.drop k) = fin
section
variable {l : List GivenD} {who : Int} {topic : ByteArray} {fin : Bool} {k n : Nat} {last : Int}
theorem GapInv.done (h : GapInv l who topic fin k n last) (hk : l.length ≤ k) : fin = true := by
  obtain ⟨_, h⟩ := h
  rw [List.drop_eq_nil_of_le hk] at h
  simpa [gap] using h.symm
theorem GapInv.other (h : GapInv l who topic fin k n last) (hk : k < l.length) (ho : ofWho l[k] who topic = false) : GapInv l who topic fin (k + 1) n last := by
  obtain ⟨h0, h⟩ := h
  rw [List.drop_eq_getElem_cons hk] at h
  simp only [gap, ho] at h
  exact ⟨by omega, by simpa using h⟩
theorem GapInv.bad (h : GapInv l who topic fin k n last) (hk : k < l.length) (ho : ofWho l[k] who topic = true) (hb : ¬ (l[k].entry.index = n ∧ (n = 0 ∨ last < l[k].leaf))) : fin = false := by
  obtain ⟨h0, h⟩ := h
  rw [List.drop_eq_getElem_cons hk] at h
  simp only [gap, ho, if_true, if_neg hb] at h
  exact h.symm
theorem GapInv.good (h : GapInv l who topic fin k n last) (hk : k < l.length) (ho : ofWho l[k] who topic = true) (hb : l[k].entry.index = n ∧ (n = 0 ∨ last < l[k].leaf)) : GapInv l who topic fin (k + 1) (n + 1) l[k].leaf := by
  obtain ⟨h0, h⟩ := h
  rw [List.drop_eq_getElem_cons hk] at h
  simp only [gap, ho, if_true, if_pos hb] at h
  exact ⟨by omega, h⟩
end

end Go.Proofs.Ytkcjhfidgnbdiaa
