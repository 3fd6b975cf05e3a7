/-
  markItem at a copy of one's own: walk. Written by program (gen_markitem.py). No condition.
  What the laws' marking writes into a row of flat things. No condition.
-/
import Derived.Test.YtichegndafnjeaaGreatToItemOwn
import Derived.Test.YtichegndafnjeaaGreatItemIn
import Derived.Test.YtichegndafnjeaaGreatMarkSS
import Derived.Test.YtichegndafnjeaaGreatReader
import Derived.Test.YtichegndafnjeaaGreatMem
namespace Go.Proofs.YtichegndafnjeaaGreat
open Go.RowKit
set_option linter.unusedVariables false

/-- The cells of a copy whose slices lie in the blocks g0 and g1. -/
def ItemRows (X : List Value) (d : ItemD) (g0 g1 : Nat) : Prop := X = [.int .i64 d.kind, .int .i64 d.old.number, .int .i64 d.old.size, .string d.old.root, .int .i64 d.old.taken, .string d.old.takenRoot, .int .i64 d.head.number, .int .i64 d.head.size, .string d.head.root, .int .i64 d.head.taken, .string d.head.takenRoot, .int .i64 d.leaf, .string d.entry.topic, .int .i64 d.entry.index, .int .i64 d.entry.time, .string d.entry.key, .string d.entry.body, .string d.receipt.reader, .string d.receipt.topic, .int .i64 d.receipt.index, .slice (some ⟨g0, 0, none⟩) d.proof.length d.proof.length, .slice (some ⟨g1, 0, none⟩) d.more.length d.more.length]
def ItemTexts (w : World) (d : ItemD) (g0 g1 : Nat) : Prop := Blk w g0 9 (d.proof.flatMap sone).toArray ∧ Blk w g1 9 (d.more.flatMap sone).toArray
theorem ItemTexts.ext {w w' : World} {d : ItemD} {g0 g1 : Nat} (h : ItemTexts w d g0 g1) (he : Ext w w') : ItemTexts w' d g0 g1 := ⟨h.1.ext he, h.2.ext he⟩
theorem ItemRows.in_ {X : List Value} {d : ItemD} {g0 g1 : Nat} {w : World} (h : ItemRows X d g0 g1) (ht : ItemTexts w d g0 g1) (hf : ∀ n ∈ d.lens, n ≤ 1048576) : ItemD.In AnyB w X d :=
  ⟨_, _, _, _, h, SlF.new sone_length ht.1 (hf _ (by simp [ItemD.lens])) trivial, SlF.new sone_length ht.2 (hf _ (by simp [ItemD.lens])) trivial⟩
theorem toItem_rows (d : ItemD) (cs : List Value) (w : World) (h : ItemD.In AnyB w cs d) (hf : ∀ n ∈ d.lens, n ≤ 1048576) :
    Calls Tryz.prog 14 #[.agg cs.toArray] w fun e w' => ∃ X g0 g1, e = .returned (.agg X.toArray) ∧ ItemRows X d g0 g1 ∧ ItemTexts w' d g0 g1 ∧ (w.heap.size ≤ g0 ∧ w.heap.size ≤ g1 ∧ g0 ≠ g1) ∧ Ext w w' := by
  obtain ⟨A0, c0, A1, c1, rfl, s0, s1⟩ := h
  refine (toItem_own d A0 c0 A1 c1 w s0 s1 hf).mono ?_
  rintro e w1 ⟨g0, g1, rfl, h0, h1, hn, b0, b1, he⟩
  exact ⟨_, g0, g1, rfl, rfl, ⟨b0, b1⟩, ⟨h0, h1, hn⟩, he⟩
set_option maxHeartbeats 2000000 in
set_option maxRecDepth 100000 in
theorem markItem_any (X : List Value) (d : ItemD) (g0 g1 : Nat) (w : World) (hX : ItemRows X d g0 g1) (ht : ItemTexts w d g0 g1) (hn : g0 ≠ g1) (hf : ∀ n ∈ d.lens, n ≤ 1048576) :
    Calls Tryz.prog 18 #[.agg X.toArray, .int .i64 1] w fun e w' => ∃ k : Nat, e = .returned (.int .i64 (k : Int)) ∧ ∃ wm, ExtBut g0 w wm ∧ ExtBut g1 wm w' := by
  unfold ItemRows at hX
  subst hX
  have l0 : d.proof.length ≤ 1048576 := hf _ (by simp [ItemD.lens])
  have l1 : d.more.length ≤ 1048576 := hf _ (by simp [ItemD.lens])
  clear hf
  obtain ⟨b0, b1⟩ := ht
  have q0 : d.proof.length ≤ (d.proof.flatMap sone).toArray.size := by rw [List.size_toArray, flat_len sone 1 sone_length]; omega
  have q1 : d.more.length ≤ (d.more.flatMap sone).toArray.size := by rw [List.size_toArray, flat_len sone 1 sone_length]; omega
  have K0 := Blk.new w 50 #[.int .i64 d.kind, .int .i64 d.old.number, .int .i64 d.old.size, .string d.old.root, .int .i64 d.old.taken, .string d.old.takenRoot, .int .i64 d.head.number, .int .i64 d.head.size, .string d.head.root, .int .i64 d.head.taken, .string d.head.takenRoot, .int .i64 d.leaf, .string d.entry.topic, .int .i64 d.entry.index, .int .i64 d.entry.time, .string d.entry.key, .string d.entry.body, .string d.receipt.reader, .string d.receipt.topic, .int .i64 d.receipt.index, .slice (some ⟨g0, 0, none⟩) d.proof.length d.proof.length, .slice (some ⟨g1, 0, none⟩) d.more.length d.more.length]
  have he := Ext.new (Below.refl w.heap.size w) (.cells #[.int .i64 d.kind, .int .i64 d.old.number, .int .i64 d.old.size, .string d.old.root, .int .i64 d.old.taken, .string d.old.takenRoot, .int .i64 d.head.number, .int .i64 d.head.size, .string d.head.root, .int .i64 d.head.taken, .string d.head.takenRoot, .int .i64 d.leaf, .string d.entry.topic, .int .i64 d.entry.index, .int .i64 d.entry.time, .string d.entry.key, .string d.entry.body, .string d.receipt.reader, .string d.receipt.topic, .int .i64 d.receipt.index, .slice (some ⟨g0, 0, none⟩) d.proof.length d.proof.length, .slice (some ⟨g1, 0, none⟩) d.more.length d.more.length] 50)
  have lt0 := b0.lt; have lt1 := b1.lt
  replace b0 := b0.ext he; replace b1 := b1.ext he
  have Q0 := Lib.hid q0; have Q1 := Lib.hid q1; clear q0 q1
  obtain ⟨hc, hm⟩ := K0.rules
  go_enter Tryz.func18, Tryz.ntmps18
  go_wp2_with fail
  obtain ⟨g, hg⟩ : ∃ g, g = w.heap.size := ⟨_, rfl⟩
  rw [← hg] at K0 hc hm lt0 lt1
  rw [← hg]
  clear hg
  generalize w.alloc (.cells #[.int .i64 d.kind, .int .i64 d.old.number, .int .i64 d.old.size, .string d.old.root, .int .i64 d.old.taken, .string d.old.takenRoot, .int .i64 d.head.number, .int .i64 d.head.size, .string d.head.root, .int .i64 d.head.taken, .string d.head.takenRoot, .int .i64 d.leaf, .string d.entry.topic, .int .i64 d.entry.index, .int .i64 d.entry.time, .string d.entry.key, .string d.entry.body, .string d.receipt.reader, .string d.receipt.topic, .int .i64 d.receipt.index, .slice (some ⟨g0, 0, none⟩) d.proof.length d.proof.length, .slice (some ⟨g1, 0, none⟩) d.more.length d.more.length] 50) = w0 at *
  refine (markStringS_any g0 d.proof.length d.proof.length 1 _ _ b0 Q0.out l0 (by decide)).mono ?_
  rintro e w1 ⟨rfl, _, k1⟩
  replace K0 := K0.extBut k1 (by omega); replace b1 := b1.extBut k1 (fun h => hn h.symm)
  have x1 := (ExtBut.of_ext (g := g0) he).next k1
  clear k1 hc hm b0
  obtain ⟨hc, hm⟩ := K0.rules
  go_wp2_with fail
  refine (markStringS_any g1 d.more.length d.more.length (1 + d.proof.length) _ _ b1 Q1.out l1 (by omega)).mono ?_
  rintro e w2 ⟨rfl, _, k2⟩
  clear hc hm K0 b1
  go_wp2_with fail
  go_ret
  exact ⟨_, rfl, w1, x1, k2⟩
end Go.Proofs.YtichegndafnjeaaGreat
namespace Go.Proofs.YtichegndafnjeaaGreat
open Go.RowKit
set_option linter.unusedVariables false

def setAll : Array Value → Nat → List Value → Array Value
  | cs, _, [] => cs
  | cs, o, v :: vs => setAll (cs.setIfInBounds o v) (o + 1) vs
theorem setAll_eq : ∀ (vs : List Value) (o : Nat) (cs : Array Value), o + vs.length ≤ cs.size → setAll cs o vs = (cs.toList.take o ++ vs ++ cs.toList.drop (o + vs.length)).toArray
  | [], o, cs, hs => by simp [setAll]
  | v :: vs, o, cs, hs => by
    simp only [List.length_cons] at hs
    have hl : o < (cs.toList.set o v).length := by simp; omega
    have a : (cs.toList.set o v).take (o + 1) = cs.toList.take o ++ [v] := by
      rw [List.take_succ_eq_append_getElem hl, List.take_set_of_le (Nat.le_refl _), List.getElem_set_self]
    have b : (cs.toList.set o v).drop (o + 1 + vs.length) = cs.toList.drop (o + 1 + vs.length) := List.drop_set_of_lt (by omega)
    rw [setAll, setAll_eq vs (o + 1) _ (by simp; omega), Array.toList_setIfInBounds, a, b, show o + (v :: vs).length = o + 1 + vs.length by simp; omega]
    simp
/-- A row of which the first k things are those of l; behind them it is as it was. -/
def rowAt {α : Type} (f : α → List Value) (size : Nat) (l : List α) (cs : Array Value) (k : Nat) : Array Value := ((l.take k).flatMap f ++ cs.toList.drop (k * size)).toArray
section
variable {α : Type} {f : α → List Value} {size : Nat} {l : List α} {cs : Array Value} {k : Nat}
theorem rowAt_zero : rowAt f size l cs 0 = cs := by simp [rowAt]
theorem rowAt_size (hf : ∀ a, (f a).length = size) (hZ : l.length * size ≤ cs.size) (hk : k ≤ l.length) : (rowAt f size l cs k).size = cs.size := by
  have e2 : k * size ≤ l.length * size := Nat.mul_le_mul_right _ hk
  simp only [rowAt, List.size_toArray, List.length_append, flat_len f size hf, List.length_take, List.length_drop, Array.length_toList]
  rw [Nat.min_eq_left hk]
  omega
theorem rowAt_step (hf : ∀ a, (f a).length = size) (hZ : l.length * size ≤ cs.size) (hk : k < l.length) : setAll (rowAt f size l cs k) (k * size) (f l[k]) = rowAt f size l cs (k + 1) := by
  have e2 : (k + 1) * size ≤ l.length * size := Nat.mul_le_mul_right _ hk
  have e3 := e2
  rw [Nat.succ_mul] at e2
  have hl1 : ((l.take k).flatMap f).length = k * size := by rw [flat_len f size hf, List.length_take, Nat.min_eq_left (by omega)]
  rw [setAll_eq _ _ _ (by rw [rowAt_size hf hZ (by omega), hf]; omega)]
  have e1 : (l.take (k + 1)).flatMap f = (l.take k).flatMap f ++ f l[k] := by rw [List.take_succ_eq_append_getElem hk, List.flatMap_append]; simp
  unfold rowAt
  rw [e1]
  generalize (l.take k).flatMap f = X at hl1
  have q1 : (X ++ cs.toList.drop (k * size)).take (k * size) = X := by rw [List.take_append_of_le_length (by omega), List.take_of_length_le (by omega)]
  have q2 : (X ++ cs.toList.drop (k * size)).drop (k * size + size) = cs.toList.drop ((k + 1) * size) := by
    rw [List.drop_append, List.drop_eq_nil_of_le (by omega), List.nil_append, List.drop_drop, hl1, show k * size + (k * size + size - k * size) = (k + 1) * size by rw [Nat.succ_mul]; omega]
  simp only [hf, q1, q2]
theorem rowAt_reads (hf : ∀ a, (f a).length = size) {w : World} {g t : Nat} (h : Blk w g t (rowAt f size l cs l.length)) : ReadsL w w.heap.size f size (some ⟨g, 0, none⟩) l := by
  refine ⟨flat_len f size hf l, fun _ => ⟨g, 0, rfl, h.lt, fun j u hu => ?_⟩⟩
  rw [Nat.zero_add, h.cell]
  have hj : j < (l.flatMap f).length := (List.getElem?_eq_some_iff.1 hu).1
  simp only [rowAt, List.take_length, List.getElem?_toArray]
  rw [List.getElem?_append_left hj]
  exact hu
end
theorem Blk.has {w : World} {g t : Nat} {cs : Array Value} (h : Blk w g t cs) {i : Nat} (hi : i < cs.size) : ∃ v, w.cell? ⟨g, i, none⟩ = some v := ⟨_, by rw [h.cell]; exact Array.getElem?_eq_getElem hi⟩
theorem markText_int (x : Int) (n : Nat) (hx : x = (n : Int)) (w : World) (hn : n ≤ 1099511627776) : Calls Tryz.prog 55 #[.int .i64 x] w fun e w' => e = .returned (.string (markB n)) ∧ Ext w w' := by
  subst hx; exact markText_any n w hn
end Go.Proofs.YtichegndafnjeaaGreat
