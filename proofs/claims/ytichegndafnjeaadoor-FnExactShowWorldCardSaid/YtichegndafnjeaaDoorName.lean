/-
  NameOk: walks. No condition.
-/
import Derived.Test.YtichegndafnjeaaDoorProg
import Derived.Test.YtichegndafnjeaaDoorSmall
namespace Go.Proofs.YtichegndafnjeaaDoor
set_option linter.unusedSimpArgs false
open Go.RowKit
set_option linter.unusedVariables false

def nameByte (c : UInt8) : Bool := decide (97 ≤ (c.toNat : Int) ∧ (c.toNat : Int) ≤ 122 ∨ 48 ≤ (c.toNat : Int) ∧ (c.toNat : Int) ≤ 57 ∨ (c.toNat : Int) = 45)
def nameOk (s : ByteArray) : Bool := inR s.size 1 20 && s.data.toList.all nameByte

def AllInv (p : UInt8 → Bool) (s : ByteArray) (fin : Bool) (k : Nat) : Prop := (s.data.toList.drop k).all p = fin
theorem AllInv.done {p : UInt8 → Bool} {s : ByteArray} {fin : Bool} {k : Nat} (h : AllInv p s fin k) (hk : s.size ≤ k) : fin = true := by
  unfold AllInv at h
  rw [List.drop_eq_nil_of_le (by simpa using hk)] at h
  simpa using h.symm
theorem AllInv.step {p : UInt8 → Bool} {s : ByteArray} {fin : Bool} {k : Nat} (h : AllInv p s fin k) (hk : k < s.size) : (p s[k] = false → fin = false) ∧ (p s[k] = true → AllInv p s fin (k + 1)) := by
  unfold AllInv at h
  rw [List.drop_eq_getElem_cons (by simpa using hk)] at h
  have e : s.data.toList[k]'(by simpa using hk) = s[k] := rfl
  rw [e] at h
  simp only [List.all_cons] at h
  exact ⟨fun e => by rw [e] at h; simpa using h.symm, fun e => by rw [e] at h; simpa [AllInv] using h⟩
theorem ret_bool {a b : Bool} (h : a = b) : Ending.returned (.bool a) = .returned (.bool b) := by rw [h]
theorem Ext.drewN {W w : World} (h : Ext W w) (n : Nat) : Ext W (w.drewN n) := ⟨h.os, h.tape, h.output, h.size, h.block⟩

end Go.Proofs.YtichegndafnjeaaDoor
