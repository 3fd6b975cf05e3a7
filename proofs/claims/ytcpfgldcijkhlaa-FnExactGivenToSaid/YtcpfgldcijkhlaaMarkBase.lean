/-
  What the laws' marking writes into a row of flat things. No condition.
-/
import Derived.Test.YtcpfgldcijkhlaaMarkS
import Derived.Test.YtcpfgldcijkhlaaMem
namespace Go.Proofs.Ytcpfgldcijkhlaa
open Go.RowKit
set_option linter.unusedVariables false

def setAll : Array Value → Nat → List Value → Array Value
  | cs, _, [] => cs
  | cs, o, v :: vs => setAll (cs.setIfInBounds o v) (o + 1) vs
theorem setAll_eq : ∀ (vs : List Value) (o : Nat) (cs : Array Value), o + vs.length ≤ cs.size → setAll cs o vs = (cs.toList.take o ++ vs ++ cs.toList.drop (o + vs.length)).toArray
  | [], o, cs, hs => by simp [setAll]
  | v :: vs, o, cs, hs => by
    simp only [List.length_cons] at hs
    have hl : o < (cs.toList.set o v).length := by simp; omega
    have a : (cs.toList.set o v).take (o + 1) = cs.toList.take o ++ [v] := by
      rw [List.take_succ_eq_append_getElem hl, List.take_set_of_le (Nat.le_refl _), List.getElem_set_self]
    have b : (cs.toList.set o v).drop (o + 1 + vs.length) = cs.toList.drop (o + 1 + vs.length) := List.drop_set_of_lt (by omega)
    rw [setAll, setAll_eq vs (o + 1) _ (by simp; omega), Array.toList_setIfInBounds, a, b, show o + (v :: vs).length = o + 1 + vs.length by simp; omega]
    simp
/-- A row of which the first k things are those of l; behind them it is as it was. -/
def rowAt {α : Type} (f : α → List Value) (size : Nat) (l : List α) (cs : Array Value) (k : Nat) : Array Value := ((l.take k).flatMap f ++ cs.toList.drop (k * size)).toArray
section
variable {α : Type} {f : α → List Value} {size : Nat} {l : List α} {cs : Array Value} {k : Nat}
theorem rowAt_zero : rowAt f size l cs 0 = cs := by simp [rowAt]
theorem rowAt_size (hf : ∀ a, (f a).length = size) (hZ : l.length * size ≤ cs.size) (hk : k ≤ l.length) : (rowAt f size l cs k).size = cs.size := by
  have e2 : k * size ≤ l.length * size := Nat.mul_le_mul_right _ hk
  simp only [rowAt, List.size_toArray, List.length_append, flat_len f size hf, List.length_take, List.length_drop, Array.length_toList]
  rw [Nat.min_eq_left hk]
  omega
theorem rowAt_step (hf : ∀ a, (f a).length = size) (hZ : l.length * size ≤ cs.size) (hk : k < l.length) : setAll (rowAt f size l cs k) (k * size) (f l[k]) = rowAt f size l cs (k + 1) := by
  have e2 : (k + 1) * size ≤ l.length * size := Nat.mul_le_mul_right _ hk
  have e3 := e2
  rw [Nat.succ_mul] at e2
  have hl1 : ((l.take k).flatMap f).length = k * size := by rw [flat_len f size hf, List.length_take, Nat.min_eq_left (by omega)]
  rw [setAll_eq _ _ _ (by rw [rowAt_size hf hZ (by omega), hf]; omega)]
  have e1 : (l.take (k + 1)).flatMap f = (l.take k).flatMap f ++ f l[k] := by rw [List.take_succ_eq_append_getElem hk, List.flatMap_append]; simp
  unfold rowAt
  rw [e1]
  generalize (l.take k).flatMap f = X at hl1
  have q1 : (X ++ cs.toList.drop (k * size)).take (k * size) = X := by rw [List.take_append_of_le_length (by omega), List.take_of_length_le (by omega)]
  have q2 : (X ++ cs.toList.drop (k * size)).drop (k * size + size) = cs.toList.drop ((k + 1) * size) := by
    rw [List.drop_append, List.drop_eq_nil_of_le (by omega), List.nil_append, List.drop_drop, hl1, show k * size + (k * size + size - k * size) = (k + 1) * size by rw [Nat.succ_mul]; omega]
  simp only [hf, q1, q2]
theorem rowAt_reads (hf : ∀ a, (f a).length = size) {w : World} {g t : Nat} (h : Blk w g t (rowAt f size l cs l.length)) : ReadsL w w.heap.size f size (some ⟨g, 0, none⟩) l := by
  refine ⟨flat_len f size hf l, fun _ => ⟨g, 0, rfl, h.lt, fun j u hu => ?_⟩⟩
  rw [Nat.zero_add, h.cell]
  have hj : j < (l.flatMap f).length := (List.getElem?_eq_some_iff.1 hu).1
  simp only [rowAt, List.take_length, List.getElem?_toArray]
  rw [List.getElem?_append_left hj]
  exact hu
end
theorem Blk.has {w : World} {g t : Nat} {cs : Array Value} (h : Blk w g t cs) {i : Nat} (hi : i < cs.size) : ∃ v, w.cell? ⟨g, i, none⟩ = some v := ⟨_, by rw [h.cell]; exact Array.getElem?_eq_getElem hi⟩
theorem markText_int (x : Int) (n : Nat) (hx : x = (n : Int)) (w : World) (hn : n ≤ 1099511627776) : Calls Try.prog 98 #[.int .i64 x] w fun e w' => e = .returned (.string (markB n)) ∧ Ext w w' := by
  subst hx; exact markText_any n w hn
end Go.Proofs.Ytcpfgldcijkhlaa
