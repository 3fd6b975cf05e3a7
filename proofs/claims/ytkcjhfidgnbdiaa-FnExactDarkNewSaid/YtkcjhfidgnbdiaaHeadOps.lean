/-
  What the laws' marking writes into a row of flat things. No condition.
  Heads: what is a right one, forks, comparing: walks. No condition.
-/
import Derived.Test.YtkcjhfidgnbdiaaMarkS
import Derived.Test.YtkcjhfidgnbdiaaMem
import Derived.Test.YtkcjhfidgnbdiaaSpecDigest
import Derived.Test.YtkcjhfidgnbdiaaEqs
namespace Go.Proofs.Ytkcjhfidgnbdiaa
set_option linter.unusedSimpArgs false
open Go.RowKit
set_option linter.unusedVariables false

def setAll : Array Value → Nat → List Value → Array Value
  | cs, _, [] => cs
  | cs, o, v :: vs => setAll (cs.setIfInBounds o v) (o + 1) vs
theorem setAll_eq : ∀ (vs : List Value) (o : Nat) (cs : Array Value), o + vs.length ≤ cs.size → setAll cs o vs = (cs.toList.take o ++ vs ++ cs.toList.drop (o + vs.length)).toArray
  | [], o, cs, hs => by simp [setAll]
  | v :: vs, o, cs, hs => by
    simp only [List.length_cons] at hs
    have hl : o < (cs.toList.set o v).length := by simp; omega
    have a : (cs.toList.set o v).take (o + 1) = cs.toList.take o ++ [v] := by
      rw [List.take_succ_eq_append_getElem hl, List.take_set_of_le (Nat.le_refl _), List.getElem_set_self]
    have b : (cs.toList.set o v).drop (o + 1 + vs.length) = cs.toList.drop (o + 1 + vs.length) := List.drop_set_of_lt (by omega)
    rw [setAll, setAll_eq vs (o + 1) _ (by simp; omega), Array.toList_setIfInBounds, a, b, show o + (v :: vs).length = o + 1 + vs.length by simp; omega]
    simp
/-- A row of which the first k things are those of l; behind them it is as it was. -/
def rowAt {α : Type} (f : α → List Value) (size : Nat) (l : List α) (cs : Array Value) (k : Nat) : Array Value := ((l.take k).flatMap f ++ cs.toList.drop (k * size)).toArray
section
variable {α : Type} {f : α → List Value} {size : Nat} {l : List α} {cs : Array Value} {k : Nat}
theorem rowAt_zero : rowAt f size l cs 0 = cs := by simp [rowAt]
theorem rowAt_size (hf : ∀ a, (f a).length = size) (hZ : l.length * size ≤ cs.size) (hk : k ≤ l.length) : (rowAt f size l cs k).size = cs.size := by
  have e2 : k * size ≤ l.length * size := Nat.mul_le_mul_right _ hk
  simp only [rowAt, List.size_toArray, List.length_append, flat_len f size hf, List.length_take, List.length_drop, Array.length_toList]
  rw [Nat.min_eq_left hk]
  omega
theorem rowAt_step (hf : ∀ a, (f a).length = size) (hZ : l.length * size ≤ cs.size) (hk : k < l.length) : setAll (rowAt f size l cs k) (k * size) (f l[k]) = rowAt f size l cs (k + 1) := by
  have e2 : (k + 1) * size ≤ l.length * size := Nat.mul_le_mul_right _ hk
  have e3 := e2
  rw [Nat.succ_mul] at e2
  have hl1 : ((l.take k).flatMap f).length = k * size := by rw [flat_len f size hf, List.length_take, Nat.min_eq_left (by omega)]
  rw [setAll_eq _ _ _ (by rw [rowAt_size hf hZ (by omega), hf]; omega)]
  have e1 : (l.take (k + 1)).flatMap f = (l.take k).flatMap f ++ f l[k] := by rw [List.take_succ_eq_append_getElem hk, List.flatMap_append]; simp
  unfold rowAt
  rw [e1]
  generalize (l.take k).flatMap f = X at hl1
  have q1 : (X ++ cs.toList.drop (k * size)).take (k * size) = X := by rw [List.take_append_of_le_length (by omega), List.take_of_length_le (by omega)]
  have q2 : (X ++ cs.toList.drop (k * size)).drop (k * size + size) = cs.toList.drop ((k + 1) * size) := by
    rw [List.drop_append, List.drop_eq_nil_of_le (by omega), List.nil_append, List.drop_drop, hl1, show k * size + (k * size + size - k * size) = (k + 1) * size by rw [Nat.succ_mul]; omega]
  simp only [hf, q1, q2]
theorem rowAt_reads (hf : ∀ a, (f a).length = size) {w : World} {g t : Nat} (h : Blk w g t (rowAt f size l cs l.length)) : ReadsL w w.heap.size f size (some ⟨g, 0, none⟩) l := by
  refine ⟨flat_len f size hf l, fun _ => ⟨g, 0, rfl, h.lt, fun j u hu => ?_⟩⟩
  rw [Nat.zero_add, h.cell]
  have hj : j < (l.flatMap f).length := (List.getElem?_eq_some_iff.1 hu).1
  simp only [rowAt, List.take_length, List.getElem?_toArray]
  rw [List.getElem?_append_left hj]
  exact hu
end
theorem Blk.has {w : World} {g t : Nat} {cs : Array Value} (h : Blk w g t cs) {i : Nat} (hi : i < cs.size) : ∃ v, w.cell? ⟨g, i, none⟩ = some v := ⟨_, by rw [h.cell]; exact Array.getElem?_eq_getElem hi⟩
theorem markText_int (x : Int) (n : Nat) (hx : x = (n : Int)) (w : World) (hn : n ≤ 1099511627776) : Calls Try.prog 51 #[.int .i64 x] w fun e w' => e = .returned (.string (markB n)) ∧ Ext w w' := by
  subst hx; exact markText_any n w hn
end Go.Proofs.Ytkcjhfidgnbdiaa
namespace Go.Proofs.Ytkcjhfidgnbdiaa
set_option linter.unusedSimpArgs false
open Go.RowKit
set_option linter.unusedVariables false

def emptyR (n : Int) : ByteArray := digest n 5 ⟨#[]⟩
theorem emptyOk (n : Int) : digestOk n 5 ⟨#[]⟩ = inR n 1 32 := by
  have h1 : inR 5 0 255 = true := rfl
  have h2 : decide ((⟨#[]⟩ : ByteArray).size ≤ 4000) = true := rfl
  simp only [digestOk, h1, h2, Bool.and_true]
theorem specEmptyRoot_any (n : Int) (w : World) : Calls Try.prog 66 #[.int .i64 n] w fun e w' => e = .returned (.tuple #[.string (emptyR n), .bool (inR n 1 32)]) ∧ Ext w w' := by
  go_enter Try.func66, Try.ntmps66
  go_wp2_with fail
  refine (specDigest_any n 5 ⟨#[]⟩ _ (by decide)).mono ?_
  rintro e w1 ⟨rfl, h1⟩
  rw [emptyOk]
  go_wp2_with fail
  go_ret2
  exact ⟨rfl, h1⟩
theorem EmptyRoot_any (n : Int) (w : World) : Calls Try.prog 119 #[.int .i64 n] w fun e w' => e = .returned (.tuple #[.string (emptyR n), .bool (inR n 1 32)]) ∧ Ext w w' := by
  go_enter Try.func119, Try.ntmps119
  go_wp2_with fail
  refine (Digest_any n 5 ⟨#[]⟩ _ (by decide)).mono ?_
  rintro e w1 ⟨rfl, h1⟩
  rw [emptyOk]
  go_wp2_with fail
  go_ret2
  exact ⟨rfl, h1⟩
theorem emptyRoot_any (n : Int) (w : World) : Calls Try.prog 103 #[.int .i64 n] w fun e w' => e = .returned (.string (emptyR n)) ∧ Ext w w' := by
  go_enter Try.func103, Try.ntmps103
  go_wp2_with fail
  refine (EmptyRoot_any n _).mono ?_
  rintro e w1 ⟨rfl, h1⟩
  go_wp2_with fail
  go_ret
  exact ⟨rfl, h1⟩
/-- Is a root one of so many leaves? -/
def rootB (n s : Int) (r : ByteArray) : Bool := inR s 0 512 && ((r.size : Int) == n) && (decide (0 < s) || (r.toList == (emptyR n).toList))
def headOk (n : Int) (h : HeadD) : Bool := inR n 1 32 && inR h.number 0 399 && rootB n h.size h.root && rootB n h.taken h.takenRoot
theorem six_cases (p1 p2 p3 p4 p5 p6 : Bool) : p1 = false ∨ (p1 = true ∧ p2 = false) ∨ (p1 = true ∧ p2 = true ∧ p3 = false) ∨ (p1 = true ∧ p2 = true ∧ p3 = true ∧ p4 = false) ∨ (p1 = true ∧ p2 = true ∧ p3 = true ∧ p4 = true ∧ p5 = false) ∨
    (p1 = true ∧ p2 = true ∧ p3 = true ∧ p4 = true ∧ p5 = true ∧ p6 = false) ∨ (p1 = true ∧ p2 = true ∧ p3 = true ∧ p4 = true ∧ p5 = true ∧ p6 = true) := by
  cases p1 <;> cases p2 <;> cases p3 <;> cases p4 <;> cases p5 <;> cases p6 <;> simp
theorem ne_of_beq {a b : Int} {p : Bool} (h : (a == b) = p) : (a != b) = !p := by rw [bne, h]
end Go.Proofs.Ytkcjhfidgnbdiaa
