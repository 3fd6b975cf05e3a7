/-
  GivenTo: plain, and walks. No condition.
  'append(own, xs...)' where xs is a row of the call's own, nil or not: as one law. No condition.
-/
import Derived.Test.YtkcjhfidgnbdiaaGapless
import Derived.Test.YtkcjhfidgnbdiaaNest
import Derived.Laws.AppendOwnNone
import Derived.Tactics
namespace Go.Proofs.Ytkcjhfidgnbdiaa
set_option linter.unusedSimpArgs false
open Go.RowKit
set_option linter.unusedVariables false

/-- A slice of flat things in a row of the call's own. -/
def OwnF {α : Type} (f : α → List Value) (size : Nat) (t : TypeId) (W w : World) (v : Value) (l : List α) : Prop := w.ownsRow W.heap.size t size v l.length (l.flatMap f)
theorem OwnF.slf {α : Type} {f : α → List Value} {size : Nat} {t : TypeId} {W w : World} {v : Value} {l : List α} (h : OwnF f size t W w v l) : ∃ A c, v = .slice A l.length c ∧ SlF (FromB W.heap.size) f size w A l c := by
  have hr := h
  rcases hr.2 with ⟨h1, h2⟩ | ⟨g, cap, cur, hv, hg, hh, hnc, hm, hs, ht⟩
  · refine ⟨none, 0, by rw [h1, h2], ?_⟩
    obtain rfl : l = [] := List.eq_nil_of_length_eq_zero h2
    exact SlF.nil _ _ _ _
  · refine ⟨_, _, hv, ⟨hnc, hm, Reads.of_own (c := cap) (by rw [← hv]; exact h), fun _ a e => by cases e; exact hg⟩⟩
theorem OwnF.ext {α : Type} {f : α → List Value} {size : Nat} {t : TypeId} {W w w' : World} {v : Value} {l : List α} (h : OwnF f size t W w v l) (he : Ext w w') : OwnF f size t W w' v l := ownsRow_ext h he
theorem new_at (w : World) (cs : List Value) (t : TypeId) : ∀ j v, cs[j]? = some v → (w.alloc (.cells cs.toArray t)).cell? ((⟨w.heap.size, 0, none⟩ : Addr).add j) = some v := by
  intro j v hj
  rw [add_mk, (Blk.new w t cs.toArray).cell]; simpa using hj
theorem flat_snoc {α : Type} (f : α → List Value) (l : List α) (a : α) : l.flatMap f ++ f a = (l ++ [a]).flatMap f := by simp
theorem info_entry : (Try.prog.info? 121).map (fun i => (i.zero, i.size, i.bytes)) = some (some (.agg #[.string ⟨#[]⟩, .int .i64 0, .int .i64 0, .string ⟨#[]⟩, .string ⟨#[]⟩]), 5, 64) := by kernel_rfl
def givenTo (l : List GivenD) (who : Int) (topic : ByteArray) : List EntryD := if l.length ≤ 200 then (l.filter (fun x => ofWho x who topic)).map GivenD.entry else []
/-- What has been found of the first k. -/
def givenUp (l : List GivenD) (who : Int) (topic : ByteArray) (k : Nat) : List EntryD := ((l.take k).filter (fun x => ofWho x who topic)).map GivenD.entry
theorem givenUp_len (l : List GivenD) (who : Int) (topic : ByteArray) (k : Nat) : (givenUp l who topic k).length ≤ k := by
  unfold givenUp
  rw [List.length_map]
  exact Nat.le_trans (List.length_filter_le _ _) (by rw [List.length_take]; exact Nat.min_le_left _ _)
theorem givenUp_all {l : List GivenD} {who : Int} {topic : ByteArray} (h : l.length ≤ 200) : givenUp l who topic l.length = givenTo l who topic := by simp [givenUp, givenTo, h]
theorem givenTo_long {l : List GivenD} {who : Int} {topic : ByteArray} (h : ¬ l.length ≤ 200) : givenTo l who topic = [] := by rw [givenTo, if_neg h]
theorem givenUp_no {l : List GivenD} {who : Int} {topic : ByteArray} {k : Nat} {d : GivenD} (hd : l[k]? = some d) (h : ofWho d who topic = false) : givenUp l who topic (k + 1) = givenUp l who topic k := by
  obtain ⟨hk, rfl⟩ := List.getElem?_eq_some_iff.1 hd
  unfold givenUp
  rw [List.take_succ_eq_append_getElem hk, List.filter_append]
  simp [h]
theorem givenUp_yes {l : List GivenD} {who : Int} {topic : ByteArray} {k : Nat} {d : GivenD} (hd : l[k]? = some d) (h : ofWho d who topic = true) : givenUp l who topic (k + 1) = givenUp l who topic k ++ [d.entry] := by
  obtain ⟨hk, rfl⟩ := List.getElem?_eq_some_iff.1 hd
  unfold givenUp
  rw [List.take_succ_eq_append_getElem hk, List.filter_append]
  simp [h]
theorem givenTo_len (l : List GivenD) (who : Int) (topic : ByteArray) : (givenTo l who topic).length ≤ 200 := by
  unfold givenTo
  split
  · rw [List.length_map]; exact Nat.le_trans (List.length_filter_le _ _) (by assumption)
  · simp
theorem given_at {l : List GivenD} {w : World} {b off : Nat} {k : Nat} {d : GivenD} (hc : ∀ j u, (l.flatMap GivenD.cells)[k * 7 + j]? = some u → w.cell? ⟨b, off + k * 7 + j, none⟩ = some u) (hd : l[k]? = some d) :
    w.cell? ⟨b, off + k * 7, none⟩ = some (.int .i64 d.who) ∧ w.cell? ⟨b, off + k * 7 + 1, none⟩ = some (.int .i64 d.leaf) ∧ w.cell? ⟨b, off + k * 7 + 2, none⟩ = some (.string d.entry.topic) ∧ w.cell? ⟨b, off + k * 7 + 3, none⟩ = some (.int .i64 d.entry.index) ∧ w.cell? ⟨b, off + k * 7 + 4, none⟩ = some (.int .i64 d.entry.time) ∧ w.cell? ⟨b, off + k * 7 + 5, none⟩ = some (.string d.entry.key) ∧ w.cell? ⟨b, off + k * 7 + 6, none⟩ = some (.string d.entry.body) :=
  ⟨hc 0 _ (flat_at _ 7 GivenD.cells_length l k 0 d hd (by omega)), hc 1 _ (flat_at _ 7 GivenD.cells_length l k 1 d hd (by omega)), hc 2 _ (flat_at _ 7 GivenD.cells_length l k 2 d hd (by omega)), hc 3 _ (flat_at _ 7 GivenD.cells_length l k 3 d hd (by omega)), hc 4 _ (flat_at _ 7 GivenD.cells_length l k 4 d hd (by omega)), hc 5 _ (flat_at _ 7 GivenD.cells_length l k 5 d hd (by omega)), hc 6 _ (flat_at _ 7 GivenD.cells_length l k 6 d hd (by omega))⟩
end Go.Proofs.Ytkcjhfidgnbdiaa
namespace Go.Proofs.Ytkcjhfidgnbdiaa
set_option linter.unusedSimpArgs false
open Go.RowKit
set_option linter.unusedVariables false

/-- A source of an append. -/
def SrcL (w : World) (x : Value) (m size : Nat) (news : List Value) : Prop :=
  ((∃ c, x = .slice none 0 c) ∧ m = 0 ∧ news = []) ∨ ∃ ad c, x = .slice (some ad) m c ∧ news.length = m * size ∧ ∀ j u, news[j]? = some u → w.cell? (ad.add j) = some u
theorem srcL_own {w : World} {B e size n : Nat} {v : Value} {xs : List Value} (h : w.ownsRow B e size v n xs) : SrcL w v n size xs := by
  have h0 := h
  rcases h.2 with ⟨h1, h2⟩ | ⟨g, cap, cur, hv, hg, hh, hnc, hm, hs, ht⟩
  · refine .inl ⟨⟨0, h1⟩, h2, ?_⟩
    have := h.1
    rw [h2, Nat.zero_mul] at this
    exact List.eq_nil_of_length_eq_zero this
  · have hr : Reads w w.heap.size size (some ⟨g, 0, none⟩) n xs := Reads.of_own (c := cap) (by rw [← hv]; exact h0)
    refine .inr ⟨_, _, hv, h.1, fun j u hu => ?_⟩
    rw [add_mk]
    have hn : 0 < n := by
      rcases Nat.eq_zero_or_pos n with h2 | h2
      · have h3 := h.1
        rw [h2, Nat.zero_mul] at h3
        rw [List.eq_nil_of_length_eq_zero h3] at hu; simp at hu
      · exact h2
    obtain ⟨b, off, e, _, hc⟩ := hr.2 hn
    cases e
    exact hc j u hu
theorem srcL_keep {w w' : World} {x : Value} {m size : Nat} {news : List Value} (h : SrcL w x m size news) (hk : ∀ p : Addr, ∀ u, w.cell? p = some u → w'.cell? p = some u) : SrcL w' x m size news := by
  rcases h with h | ⟨ad, c, h1, h2, h3⟩
  · exact .inl h
  · exact .inr ⟨ad, c, h1, h2, fun j u hu => hk _ _ (h3 j u hu)⟩
theorem run_append_none {P : Program} {w : World} (base : Nat) (t ty e : TypeId) (i : TypeInfo) (size c : Nat) (ht : P.underlying t = some (.slice e)) (hi : P.info? e = some i)
    (v : Value) (n : Nat) (xs : List Value) (hown : w.ownsRow base e size v n xs) :
    (Builtin.append_ #[t, t] ty #[v, .slice none 0 c]).run P w = .ok v w := by
  rcases hown.2 with ⟨rfl, rfl⟩ | ⟨g, cap, cur, rfl, _, _, hnc, _⟩
  · simp [Builtin.append_, run_underlying ht, sizeOf, typeInfo, hi, Builtin.lenOf, Builtin.firstCells]
  · simp [Builtin.append_, run_underlying ht, sizeOf, typeInfo, hi, Builtin.lenOf, Builtin.firstCells, hnc, storeCells]
theorem wpList_append_src {P : Program} {w : World} {ops : Array Oper} {rest : List Oper} {o : Oper} {a : Act} {Q : Exit → Act → World → Prop} (hgd : o.guard = none) (s x : Operand) (t : TypeId)
    (ho : o.op = .call { callee := .builtin .append, args := #[s, x], argTypes := #[t, t] })
    (base : Nat) (e : TypeId) (i : TypeInfo) (z : Value) (size bytes : Nat) (ht : P.underlying t = some (.slice e)) (hi : P.info? e = some i) (hz : i.zero = some z)
    (hsize : i.size = size) (hby : i.bytes = bytes) (hzs : z.cells.size = size) (hsz : 0 < size)
    (v : Value) (n : Nat) (xs : List Value) (hs : a.eval s = v) (hown : w.ownsRow base e size v n xs)
    (xv : Value) (m : Nat) (news : List Value) (hx : a.eval x = xv) (hsrc : SrcL w xv m size news) (h1 : ∀ u ∈ news, u.oneCell' = true)
    (h63 : n + m ≤ maxLen) (hbytes : (n + m) * bytes ≤ 140737488355328) (hbase : base ≤ w.heap.size)
    (h : ∀ v' w', w'.ownsRow base e size v' (n + m) (xs ++ news) → w.grownBy w' v.ownBlock → wpList P ops Q rest (a.put o.dst v') w') : wpList P ops Q (o :: rest) a w := by
  rcases hsrc with ⟨⟨c, rfl⟩, rfl, rfl⟩ | ⟨ad, c, rfl, hl, hn⟩
  · refine wpList_plain hgd fun K hK => ?_
    have hrun := run_append_none (P := P) (w := w) base t o.type e i size c ht hi v n xs hown
    unfold Oper.wp
    simp [execOp, ho, resolve, invoke, builtin, hs, hx, hrun, Result.andThen]
    exact hK _ _ (h v w (by rw [List.append_nil]; exact hown) (World.grownBy.refl _ _))
  · exact wpList_append_own _ hgd s x t ho base e i z size bytes ht hi hz hsize hby hzs hsz v n xs hs hown ad m c news hx hl hn h1 h63 hbytes hbase (fun v' w' a b _ => h v' w' a b)
end Go.Proofs.Ytkcjhfidgnbdiaa
