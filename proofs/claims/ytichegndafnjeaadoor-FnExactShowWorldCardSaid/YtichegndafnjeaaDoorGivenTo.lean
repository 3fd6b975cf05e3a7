/-
  GivenTo: plain, and walks. No condition.
-/
import Derived.Test.YtichegndafnjeaaDoorGapless
import Derived.Test.YtichegndafnjeaaDoorNest
namespace Go.Proofs.YtichegndafnjeaaDoor
set_option linter.unusedSimpArgs false
open Go.RowKit
set_option linter.unusedVariables false

/-- A slice of flat things in a row of the call's own. -/
def OwnF {α : Type} (f : α → List Value) (size : Nat) (t : TypeId) (W w : World) (v : Value) (l : List α) : Prop := w.ownsRow W.heap.size t size v l.length (l.flatMap f)
theorem OwnF.slf {α : Type} {f : α → List Value} {size : Nat} {t : TypeId} {W w : World} {v : Value} {l : List α} (h : OwnF f size t W w v l) : ∃ A c, v = .slice A l.length c ∧ SlF (FromB W.heap.size) f size w A l c := by
  have hr := h
  rcases hr.2 with ⟨h1, h2⟩ | ⟨g, cap, cur, hv, hg, hh, hnc, hm, hs, ht⟩
  · refine ⟨none, 0, by rw [h1, h2], ?_⟩
    obtain rfl : l = [] := List.eq_nil_of_length_eq_zero h2
    exact SlF.nil _ _ _ _
  · refine ⟨_, _, hv, ⟨hnc, hm, Reads.of_own (c := cap) (by rw [← hv]; exact h), fun _ a e => by cases e; exact hg⟩⟩
theorem OwnF.ext {α : Type} {f : α → List Value} {size : Nat} {t : TypeId} {W w w' : World} {v : Value} {l : List α} (h : OwnF f size t W w v l) (he : Ext w w') : OwnF f size t W w' v l := ownsRow_ext h he
theorem new_at (w : World) (cs : List Value) (t : TypeId) : ∀ j v, cs[j]? = some v → (w.alloc (.cells cs.toArray t)).cell? ((⟨w.heap.size, 0, none⟩ : Addr).add j) = some v := by
  intro j v hj
  rw [add_mk, (Blk.new w t cs.toArray).cell]; simpa using hj
theorem flat_snoc {α : Type} (f : α → List Value) (l : List α) (a : α) : l.flatMap f ++ f a = (l ++ [a]).flatMap f := by simp
theorem info_entry : (Tryd.prog.info? 114).map (fun i => (i.zero, i.size, i.bytes)) = some (some (.agg #[.string ⟨#[]⟩, .int .i64 0, .int .i64 0, .string ⟨#[]⟩, .string ⟨#[]⟩]), 5, 64) := by kernel_rfl
def givenTo (l : List GivenD) (who : Int) (topic : ByteArray) : List EntryD := if l.length ≤ 200 then (l.filter (fun x => ofWho x who topic)).map GivenD.entry else []
/-- What has been found of the first k. -/
def givenUp (l : List GivenD) (who : Int) (topic : ByteArray) (k : Nat) : List EntryD := ((l.take k).filter (fun x => ofWho x who topic)).map GivenD.entry
theorem givenUp_len (l : List GivenD) (who : Int) (topic : ByteArray) (k : Nat) : (givenUp l who topic k).length ≤ k := by
  unfold givenUp
  rw [List.length_map]
  exact Nat.le_trans (List.length_filter_le _ _) (by rw [List.length_take]; exact Nat.min_le_left _ _)
theorem givenUp_all {l : List GivenD} {who : Int} {topic : ByteArray} (h : l.length ≤ 200) : givenUp l who topic l.length = givenTo l who topic := by simp [givenUp, givenTo, h]
theorem givenTo_long {l : List GivenD} {who : Int} {topic : ByteArray} (h : ¬ l.length ≤ 200) : givenTo l who topic = [] := by rw [givenTo, if_neg h]
theorem givenUp_no {l : List GivenD} {who : Int} {topic : ByteArray} {k : Nat} {d : GivenD} (hd : l[k]? = some d) (h : ofWho d who topic = false) : givenUp l who topic (k + 1) = givenUp l who topic k := by
  obtain ⟨hk, rfl⟩ := List.getElem?_eq_some_iff.1 hd
  unfold givenUp
  rw [List.take_succ_eq_append_getElem hk, List.filter_append]
  simp [h]
theorem givenUp_yes {l : List GivenD} {who : Int} {topic : ByteArray} {k : Nat} {d : GivenD} (hd : l[k]? = some d) (h : ofWho d who topic = true) : givenUp l who topic (k + 1) = givenUp l who topic k ++ [d.entry] := by
  obtain ⟨hk, rfl⟩ := List.getElem?_eq_some_iff.1 hd
  unfold givenUp
  rw [List.take_succ_eq_append_getElem hk, List.filter_append]
  simp [h]
theorem givenTo_len (l : List GivenD) (who : Int) (topic : ByteArray) : (givenTo l who topic).length ≤ 200 := by
  unfold givenTo
  split
  · rw [List.length_map]; exact Nat.le_trans (List.length_filter_le _ _) (by assumption)
  · simp
theorem given_at {l : List GivenD} {w : World} {b off : Nat} {k : Nat} {d : GivenD} (hc : ∀ j u, (l.flatMap GivenD.cells)[k * 7 + j]? = some u → w.cell? ⟨b, off + k * 7 + j, none⟩ = some u) (hd : l[k]? = some d) :
    w.cell? ⟨b, off + k * 7, none⟩ = some (.int .i64 d.who) ∧ w.cell? ⟨b, off + k * 7 + 1, none⟩ = some (.int .i64 d.leaf) ∧ w.cell? ⟨b, off + k * 7 + 2, none⟩ = some (.string d.entry.topic) ∧ w.cell? ⟨b, off + k * 7 + 3, none⟩ = some (.int .i64 d.entry.index) ∧ w.cell? ⟨b, off + k * 7 + 4, none⟩ = some (.int .i64 d.entry.time) ∧ w.cell? ⟨b, off + k * 7 + 5, none⟩ = some (.string d.entry.key) ∧ w.cell? ⟨b, off + k * 7 + 6, none⟩ = some (.string d.entry.body) :=
  ⟨hc 0 _ (flat_at _ 7 GivenD.cells_length l k 0 d hd (by omega)), hc 1 _ (flat_at _ 7 GivenD.cells_length l k 1 d hd (by omega)), hc 2 _ (flat_at _ 7 GivenD.cells_length l k 2 d hd (by omega)), hc 3 _ (flat_at _ 7 GivenD.cells_length l k 3 d hd (by omega)), hc 4 _ (flat_at _ 7 GivenD.cells_length l k 4 d hd (by omega)), hc 5 _ (flat_at _ 7 GivenD.cells_length l k 5 d hd (by omega)), hc 6 _ (flat_at _ 7 GivenD.cells_length l k 6 d hd (by omega))⟩
end Go.Proofs.YtichegndafnjeaaDoor
