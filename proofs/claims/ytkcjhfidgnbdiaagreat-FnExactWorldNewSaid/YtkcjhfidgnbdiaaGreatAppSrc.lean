/-
  The laws' own copying and comparing functions at Cursor: walks. Written by program (gen_conv.py). No condition.
  The laws' own functions at a client without cursors: walks. No condition.
  Clients without cursors, as flat things; words for marking rows of such; a new client. No condition.
  Gapless: walks. Written by program (gen_gap.py). No condition.
  GivenTo: plain, and walks. No condition.
  'append(own, xs...)' where xs is a row of the call's own, nil or not: as one law. No condition.
-/
import Derived.Test.YtkcjhfidgnbdiaaGreatNamesOk
import Derived.StillTailTactics
import Derived.Test.YtkcjhfidgnbdiaaGreatClientNw
import Derived.Test.YtkcjhfidgnbdiaaGreatConvHead
import Derived.Test.YtkcjhfidgnbdiaaGreatMarkBase
import Derived.Test.YtkcjhfidgnbdiaaGreatArgs
import Derived.Test.YtkcjhfidgnbdiaaGreatNest
import Derived.Laws.AppendOwnNone
import Derived.Tactics
namespace Go.Proofs.YtkcjhfidgnbdiaaGreat
set_option linter.unusedSimpArgs false
open Go.RowKit
set_option linter.unusedVariables false

def CursorD.lens (d : CursorD) : List Nat := [d.topic.size]
theorem eqCursor_same (d : CursorD) (w : World) :
    Calls Tryz.prog 293 #[.agg #[.string d.topic, .int .i64 d.next, .int .i64 d.last], .agg #[.string d.topic, .int .i64 d.next, .int .i64 d.last]] w fun e w' => e = .returned (.bool true) ∧ Ext w w' := by
  go_enter Tryz.func293, Tryz.ntmps293
  go_wp2
  go_ret
  exact ⟨rfl, by go_grown⟩
set_option maxHeartbeats 1000000 in
set_option maxRecDepth 100000 in
theorem eqCursorS_same (A A' : Option Addr) (c c' : Nat) (l : List CursorD) (w : World) (hr : ReadsL w w.heap.size CursorD.cells 3 A l) (hr' : ReadsL w w.heap.size CursorD.cells 3 A' l) (hl : l.length ≤ 1048576) :
    Calls Tryz.prog 259 #[.slice A l.length c, .slice A' l.length c'] w fun e w' => e = .returned (.bool true) ∧ Ext w w' := by
  go_enter Tryz.func259, Tryz.ntmps259
  go_wp2
  go_loopw [5] (fun i wr => ∃ (k : Nat), k ≤ l.length ∧ i = .int .i64 k ∧ Ext w wr) (fun i _ => l.length - (intOf i).toNat)
  case atStart => exact ⟨0, Nat.zero_le _, rfl, Below.refl _ _⟩
  case round =>
    obtain ⟨k, hk, rfl, he⟩ := hrel
    by_cases hlt : k < l.length
    · obtain ⟨b, off, rfl, hb, hc⟩ := (hr.below he).at_ (k := k) hlt
      obtain ⟨b', off', rfl, hb', hc'⟩ := (hr'.below he).at_ (k := k) hlt
      obtain ⟨d, hd⟩ : ∃ d, d = l[k] := ⟨_, rfl⟩
      have hdl : l[k]? = some d := by rw [hd]; exact List.getElem?_eq_getElem hlt
      have c0 := hc 0 _ (flat_at _ 3 CursorD.cells_length l k 0 d hdl (by omega))
      have c1 := hc 1 _ (flat_at _ 3 CursorD.cells_length l k 1 d hdl (by omega))
      have c2 := hc 2 _ (flat_at _ 3 CursorD.cells_length l k 2 d hdl (by omega))
      have b0 := hc' 0 _ (flat_at _ 3 CursorD.cells_length l k 0 d hdl (by omega))
      have b1 := hc' 1 _ (flat_at _ 3 CursorD.cells_length l k 1 d hdl (by omega))
      have b2 := hc' 2 _ (flat_at _ 3 CursorD.cells_length l k 2 d hdl (by omega))
      rw [Nat.add_zero] at c0 b0
      clear hc hc' hd hdl
      go_wp2_with fail
      go_still_tail 8, (by kernel_rfl)
      change wpList _ _ _ _ _ wr.drew
      generalize hw : wr.drew = w2
      have he2 : Ext w w2 := by rw [← hw]; exact he.drew
      clear hw he
      go_wp2_with fail
      refine (eqCursor_same d _).mono ?_
      rintro e w1 ⟨rfl, h1⟩
      replace he2 := he2.next h1; clear h1 c0 c1 c2 b0 b1 b2
      go_wp2_with fail
      go_roundw
      case rel => exact ⟨k + 1, by omega, by go_num, he2⟩
      case measure => simp [intOf]; omega
    · go_wp2_with fail
      go_ret
      exact ⟨rfl, he⟩
end Go.Proofs.YtkcjhfidgnbdiaaGreat
namespace Go.Proofs.YtkcjhfidgnbdiaaGreat
set_option linter.unusedSimpArgs false
open Go.RowKit
set_option linter.unusedVariables false

theorem eqCursorS_nil (w : World) : Calls Tryz.prog 259 #[.slice none 0 0, .slice none 0 0] w fun e w' => e = .returned (.bool true) ∧ Ext w w' :=
  eqCursorS_same none none 0 0 [] w Reads.nil_ Reads.nil_ (by simp)
theorem markCursorS_nil (k : Int) (w : World) : Calls Tryz.prog 187 #[.slice none 0 0, .int .i64 k] w fun e w' => e = .returned (.int .i64 k) ∧ Ext w w' := by
  go_enter Tryz.func187, Tryz.ntmps187
  go_wp2_with fail
  refine wp_loop_rounds 1 ?_
  rw [rounds_succ]
  go_wp2_with fail
  go_ret
  exact ⟨rfl, Below.refl _ _⟩
theorem heldCursorS_nil (k : Int) (w : World) : Calls Tryz.prog 188 #[.slice none 0 0, .int .i64 k] w fun e w' => e = .returned (.int .i64 k) ∧ Ext w w' := by
  go_enter Tryz.func188, Tryz.ntmps188
  go_wp2_with fail
  refine wp_loop_rounds 1 ?_
  rw [rounds_succ]
  go_wp2_with fail
  go_ret
  exact ⟨rfl, Below.refl _ _⟩
set_option maxHeartbeats 1000000 in
theorem eqClient_nil (n : Int) (s : ByteArray) (h : HeadD) (w : World) : Calls Tryz.prog 184 #[.agg #[.int .i64 n, .string s, .int .i64 h.number, .int .i64 h.size, .string h.root, .int .i64 h.taken, .string h.takenRoot, .slice none 0 0], .agg #[.int .i64 n, .string s, .int .i64 h.number, .int .i64 h.size, .string h.root, .int .i64 h.taken, .string h.takenRoot, .slice none 0 0]] w fun e w' => e = .returned (.bool true) ∧ Ext w w' := by
  go_enter Tryz.func184, Tryz.ntmps184
  go_wp2_with fail
  refine (eqHead_same h _).mono ?_
  rintro e w1 ⟨rfl, h1⟩
  have B0 := ((Blk.new _ _ _).alloc _).ext h1
  have B1 := (Blk.new _ _ _).ext h1
  have he := (Ext.new (Ext.new (Below.refl _ w) _) _).next h1
  simp only [World.size_alloc] at B1
  clear h1
  obtain ⟨r0, f0⟩ := B0.rules
  obtain ⟨r1, f1⟩ := B1.rules
  go_wp2_with fail
  refine (eqCursorS_nil _).mono ?_
  rintro e w2 ⟨rfl, h1⟩
  replace he := he.next h1
  go_wp2_with fail
  go_ret
  exact ⟨rfl, he⟩
end Go.Proofs.YtkcjhfidgnbdiaaGreat
namespace Go.Proofs.YtkcjhfidgnbdiaaGreat
set_option linter.unusedSimpArgs false
open Go.RowKit
set_option linter.unusedVariables false

structure CliZ where
  width : Int
  name : ByteArray
  head : HeadD
def CliZ.cells (d : CliZ) : List Value := [.int .i64 d.width, .string d.name, .int .i64 d.head.number, .int .i64 d.head.size, .string d.head.root, .int .i64 d.head.taken, .string d.head.takenRoot, .slice none 0 0]
theorem CliZ.cells_length (d : CliZ) : d.cells.length = 8 := rfl
theorem set_get_ne {cs : Array Value} {i j : Nat} {v u : Value} (h : cs[i]? = some u) (hne : j ≠ i) : (cs.setIfInBounds j v)[i]? = some u := by
  rw [Array.getElem?_setIfInBounds_ne hne]; exact h
theorem set_same {cs : Array Value} {i : Nat} {v : Value} (h : cs[i]? = some v) : cs.setIfInBounds i v = cs := by
  apply Array.ext_getElem?
  intro k
  have hi : i < cs.size := (Array.getElem?_eq_some_iff.1 h).1
  rw [Array.getElem?_setIfInBounds]
  by_cases e : i = k
  · subst e; rw [if_pos rfl, if_pos hi, h]
  · rw [if_neg e]
theorem rowAt_behind {α : Type} {f : α → List Value} {size : Nat} {l : List α} {cs : Array Value} {k i : Nat} {v : Value} (hf : ∀ a, (f a).length = size) (hk : k ≤ l.length) (hi : k * size ≤ i) (h : cs[i]? = some v) : (rowAt f size l cs k)[i]? = some v := by
  have hl : ((l.take k).flatMap f).length = k * size := by rw [flat_len f size hf, List.length_take, Nat.min_eq_left hk]
  simp only [rowAt, List.getElem?_toArray]
  rw [List.getElem?_append_right (by omega), hl, List.getElem?_drop, show k * size + (i - k * size) = i by omega]
  simpa using h
def cliZ (n : Int) (s : ByteArray) : CliZ := ⟨n, s, newH true n⟩
theorem newC_z {n : Int} {s : ByteArray} (h : (inR n 1 32 && nameOk s) = true) : newC n s = (cliZ n s).cells := by unfold newC; rw [h]; rfl
theorem namesTo_all {l : List ByteArray} : ∀ {n : Nat}, namesTo l n = true → ∀ i, i < n → nameOk (l.getD i ⟨#[]⟩) = true
  | 0, _, i, hi => absurd hi (by omega)
  | n + 1, h, i, hi => by
    rw [namesTo, Bool.and_eq_true, Bool.and_eq_true] at h
    by_cases e : i = n
    · subst e; exact h.2.1
    · exact namesTo_all h.1 i (by omega)
theorem names_ok {n : Int} {l : List ByteArray} (h : (inR n 1 32 && namesB l) = true) : inR n 1 32 = true ∧ l.length ≤ 4 ∧ ∀ s ∈ l, (inR n 1 32 && nameOk s) = true := by
  rw [Bool.and_eq_true, namesB, Bool.and_eq_true] at h
  obtain ⟨h1, h2, h3⟩ := h
  refine ⟨h1, by have := inR_true h2; omega, fun s hs => ?_⟩
  obtain ⟨i, hi⟩ := List.getElem?_of_mem hs
  have hl : i < l.length := (List.getElem?_eq_some_iff.1 hi).1
  have := namesTo_all h3 i hl
  rw [List.getD_eq_getElem?_getD, hi] at this
  rw [h1]; exact this
theorem cliZ_cell (d : CliZ) : ∀ u ∈ d.cells, u.oneCell' = true := by
  intro u hu
  simp [CliZ.cells] at hu
  rcases hu with rfl | rfl | rfl | rfl | rfl | rfl | rfl | rfl <;> rfl
theorem info_client : (Tryz.prog.info? 142).map (fun i => (i.zero, i.size, i.bytes)) = some (some (.agg #[.int .i64 0, .string ⟨#[]⟩, .int .i64 0, .int .i64 0, .string ⟨#[]⟩, .int .i64 0, .string ⟨#[]⟩, .slice none 0 0]), 8, 104) := by kernel_rfl
end Go.Proofs.YtkcjhfidgnbdiaaGreat
namespace Go.Proofs.YtkcjhfidgnbdiaaGreat
set_option linter.unusedSimpArgs false
open Go.RowKit
set_option linter.unusedVariables false

/-- Is it one's, and of a topic? -/
def ofWho (x : GivenD) (who : Int) (topic : ByteArray) : Bool := (x.who == who) && (x.entry.topic.toList == topic.toList)
def gap (who : Int) (topic : ByteArray) : Nat → Int → List GivenD → Bool
  | _, _, [] => true
  | n, last, x :: xs => if ofWho x who topic = true then (if x.entry.index = n ∧ (n = 0 ∨ last < x.leaf) then gap who topic (n + 1) x.leaf xs else false) else gap who topic n last xs
theorem gap_zero (who : Int) (topic : ByteArray) (a b : Int) : ∀ l : List GivenD, gap who topic 0 a l = gap who topic 0 b l
  | [] => rfl
  | x :: xs => by
    simp only [gap]
    split
    · simp
    · exact gap_zero who topic a b xs
def gaplessB (l : List GivenD) (who : Int) (topic : ByteArray) : Bool := decide (l.length ≤ 200) && gap who topic 0 0 l
def GapInv (l : List GivenD) (who : Int) (topic : ByteArray) (fin : Bool) (k n : Nat) (last : Int) : Prop := n ≤ k ∧ gap who topic n last (l.drop k) = fin
section
variable {l : List GivenD} {who : Int} {topic : ByteArray} {fin : Bool} {k n : Nat} {last : Int}
theorem GapInv.done (h : GapInv l who topic fin k n last) (hk : l.length ≤ k) : fin = true := by
  obtain ⟨_, h⟩ := h
  rw [List.drop_eq_nil_of_le hk] at h
  simpa [gap] using h.symm
theorem GapInv.other (h : GapInv l who topic fin k n last) (hk : k < l.length) (ho : ofWho l[k] who topic = false) : GapInv l who topic fin (k + 1) n last := by
  obtain ⟨h0, h⟩ := h
  rw [List.drop_eq_getElem_cons hk] at h
  simp only [gap, ho] at h
  exact ⟨by omega, by simpa using h⟩
theorem GapInv.bad (h : GapInv l who topic fin k n last) (hk : k < l.length) (ho : ofWho l[k] who topic = true) (hb : ¬ (l[k].entry.index = n ∧ (n = 0 ∨ last < l[k].leaf))) : fin = false := by
  obtain ⟨h0, h⟩ := h
  rw [List.drop_eq_getElem_cons hk] at h
  simp only [gap, ho, if_true, if_neg hb] at h
  exact h.symm
theorem GapInv.good (h : GapInv l who topic fin k n last) (hk : k < l.length) (ho : ofWho l[k] who topic = true) (hb : l[k].entry.index = n ∧ (n = 0 ∨ last < l[k].leaf)) : GapInv l who topic fin (k + 1) (n + 1) l[k].leaf := by
  obtain ⟨h0, h⟩ := h
  rw [List.drop_eq_getElem_cons hk] at h
  simp only [gap, ho, if_true, if_pos hb] at h
  exact ⟨by omega, h⟩
end

end Go.Proofs.YtkcjhfidgnbdiaaGreat
namespace Go.Proofs.YtkcjhfidgnbdiaaGreat
set_option linter.unusedSimpArgs false
open Go.RowKit
set_option linter.unusedVariables false

/-- A slice of flat things in a row of the call's own. -/
def OwnF {α : Type} (f : α → List Value) (size : Nat) (t : TypeId) (W w : World) (v : Value) (l : List α) : Prop := w.ownsRow W.heap.size t size v l.length (l.flatMap f)
theorem OwnF.slf {α : Type} {f : α → List Value} {size : Nat} {t : TypeId} {W w : World} {v : Value} {l : List α} (h : OwnF f size t W w v l) : ∃ A c, v = .slice A l.length c ∧ SlF (FromB W.heap.size) f size w A l c := by
  have hr := h
  rcases hr.2 with ⟨h1, h2⟩ | ⟨g, cap, cur, hv, hg, hh, hnc, hm, hs, ht⟩
  · refine ⟨none, 0, by rw [h1, h2], ?_⟩
    obtain rfl : l = [] := List.eq_nil_of_length_eq_zero h2
    exact SlF.nil _ _ _ _
  · refine ⟨_, _, hv, ⟨hnc, hm, Reads.of_own (c := cap) (by rw [← hv]; exact h), fun _ a e => by cases e; exact hg⟩⟩
theorem OwnF.ext {α : Type} {f : α → List Value} {size : Nat} {t : TypeId} {W w w' : World} {v : Value} {l : List α} (h : OwnF f size t W w v l) (he : Ext w w') : OwnF f size t W w' v l := ownsRow_ext h he
theorem new_at (w : World) (cs : List Value) (t : TypeId) : ∀ j v, cs[j]? = some v → (w.alloc (.cells cs.toArray t)).cell? ((⟨w.heap.size, 0, none⟩ : Addr).add j) = some v := by
  intro j v hj
  rw [add_mk, (Blk.new w t cs.toArray).cell]; simpa using hj
theorem flat_snoc {α : Type} (f : α → List Value) (l : List α) (a : α) : l.flatMap f ++ f a = (l ++ [a]).flatMap f := by simp
theorem info_entry : (Tryz.prog.info? 66).map (fun i => (i.zero, i.size, i.bytes)) = some (some (.agg #[.string ⟨#[]⟩, .int .i64 0, .int .i64 0, .string ⟨#[]⟩, .string ⟨#[]⟩]), 5, 64) := by kernel_rfl
def givenTo (l : List GivenD) (who : Int) (topic : ByteArray) : List EntryD := if l.length ≤ 200 then (l.filter (fun x => ofWho x who topic)).map GivenD.entry else []
/-- What has been found of the first k. -/
def givenUp (l : List GivenD) (who : Int) (topic : ByteArray) (k : Nat) : List EntryD := ((l.take k).filter (fun x => ofWho x who topic)).map GivenD.entry
theorem givenUp_len (l : List GivenD) (who : Int) (topic : ByteArray) (k : Nat) : (givenUp l who topic k).length ≤ k := by
  unfold givenUp
  rw [List.length_map]
  exact Nat.le_trans (List.length_filter_le _ _) (by rw [List.length_take]; exact Nat.min_le_left _ _)
theorem givenUp_all {l : List GivenD} {who : Int} {topic : ByteArray} (h : l.length ≤ 200) : givenUp l who topic l.length = givenTo l who topic := by simp [givenUp, givenTo, h]
theorem givenTo_long {l : List GivenD} {who : Int} {topic : ByteArray} (h : ¬ l.length ≤ 200) : givenTo l who topic = [] := by rw [givenTo, if_neg h]
theorem givenUp_no {l : List GivenD} {who : Int} {topic : ByteArray} {k : Nat} {d : GivenD} (hd : l[k]? = some d) (h : ofWho d who topic = false) : givenUp l who topic (k + 1) = givenUp l who topic k := by
  obtain ⟨hk, rfl⟩ := List.getElem?_eq_some_iff.1 hd
  unfold givenUp
  rw [List.take_succ_eq_append_getElem hk, List.filter_append]
  simp [h]
theorem givenUp_yes {l : List GivenD} {who : Int} {topic : ByteArray} {k : Nat} {d : GivenD} (hd : l[k]? = some d) (h : ofWho d who topic = true) : givenUp l who topic (k + 1) = givenUp l who topic k ++ [d.entry] := by
  obtain ⟨hk, rfl⟩ := List.getElem?_eq_some_iff.1 hd
  unfold givenUp
  rw [List.take_succ_eq_append_getElem hk, List.filter_append]
  simp [h]
theorem givenTo_len (l : List GivenD) (who : Int) (topic : ByteArray) : (givenTo l who topic).length ≤ 200 := by
  unfold givenTo
  split
  · rw [List.length_map]; exact Nat.le_trans (List.length_filter_le _ _) (by assumption)
  · simp
theorem given_at {l : List GivenD} {w : World} {b off : Nat} {k : Nat} {d : GivenD} (hc : ∀ j u, (l.flatMap GivenD.cells)[k * 7 + j]? = some u → w.cell? ⟨b, off + k * 7 + j, none⟩ = some u) (hd : l[k]? = some d) :
    w.cell? ⟨b, off + k * 7, none⟩ = some (.int .i64 d.who) ∧ w.cell? ⟨b, off + k * 7 + 1, none⟩ = some (.int .i64 d.leaf) ∧ w.cell? ⟨b, off + k * 7 + 2, none⟩ = some (.string d.entry.topic) ∧ w.cell? ⟨b, off + k * 7 + 3, none⟩ = some (.int .i64 d.entry.index) ∧ w.cell? ⟨b, off + k * 7 + 4, none⟩ = some (.int .i64 d.entry.time) ∧ w.cell? ⟨b, off + k * 7 + 5, none⟩ = some (.string d.entry.key) ∧ w.cell? ⟨b, off + k * 7 + 6, none⟩ = some (.string d.entry.body) :=
  ⟨hc 0 _ (flat_at _ 7 GivenD.cells_length l k 0 d hd (by omega)), hc 1 _ (flat_at _ 7 GivenD.cells_length l k 1 d hd (by omega)), hc 2 _ (flat_at _ 7 GivenD.cells_length l k 2 d hd (by omega)), hc 3 _ (flat_at _ 7 GivenD.cells_length l k 3 d hd (by omega)), hc 4 _ (flat_at _ 7 GivenD.cells_length l k 4 d hd (by omega)), hc 5 _ (flat_at _ 7 GivenD.cells_length l k 5 d hd (by omega)), hc 6 _ (flat_at _ 7 GivenD.cells_length l k 6 d hd (by omega))⟩
end Go.Proofs.YtkcjhfidgnbdiaaGreat
namespace Go.Proofs.YtkcjhfidgnbdiaaGreat
set_option linter.unusedSimpArgs false
open Go.RowKit
set_option linter.unusedVariables false

/-- A source of an append. -/
def SrcL (w : World) (x : Value) (m size : Nat) (news : List Value) : Prop :=
  ((∃ c, x = .slice none 0 c) ∧ m = 0 ∧ news = []) ∨ ∃ ad c, x = .slice (some ad) m c ∧ news.length = m * size ∧ ∀ j u, news[j]? = some u → w.cell? (ad.add j) = some u
theorem srcL_own {w : World} {B e size n : Nat} {v : Value} {xs : List Value} (h : w.ownsRow B e size v n xs) : SrcL w v n size xs := by
  have h0 := h
  rcases h.2 with ⟨h1, h2⟩ | ⟨g, cap, cur, hv, hg, hh, hnc, hm, hs, ht⟩
  · refine .inl ⟨⟨0, h1⟩, h2, ?_⟩
    have := h.1
    rw [h2, Nat.zero_mul] at this
    exact List.eq_nil_of_length_eq_zero this
  · have hr : Reads w w.heap.size size (some ⟨g, 0, none⟩) n xs := Reads.of_own (c := cap) (by rw [← hv]; exact h0)
    refine .inr ⟨_, _, hv, h.1, fun j u hu => ?_⟩
    rw [add_mk]
    have hn : 0 < n := by
      rcases Nat.eq_zero_or_pos n with h2 | h2
      · have h3 := h.1
        rw [h2, Nat.zero_mul] at h3
        rw [List.eq_nil_of_length_eq_zero h3] at hu; simp at hu
      · exact h2
    obtain ⟨b, off, e, _, hc⟩ := hr.2 hn
    cases e
    exact hc j u hu
theorem srcL_keep {w w' : World} {x : Value} {m size : Nat} {news : List Value} (h : SrcL w x m size news) (hk : ∀ p : Addr, ∀ u, w.cell? p = some u → w'.cell? p = some u) : SrcL w' x m size news := by
  rcases h with h | ⟨ad, c, h1, h2, h3⟩
  · exact .inl h
  · exact .inr ⟨ad, c, h1, h2, fun j u hu => hk _ _ (h3 j u hu)⟩
theorem run_append_none {P : Program} {w : World} (base : Nat) (t ty e : TypeId) (i : TypeInfo) (size c : Nat) (ht : P.underlying t = some (.slice e)) (hi : P.info? e = some i)
    (v : Value) (n : Nat) (xs : List Value) (hown : w.ownsRow base e size v n xs) :
    (Builtin.append_ #[t, t] ty #[v, .slice none 0 c]).run P w = .ok v w := by
  rcases hown.2 with ⟨rfl, rfl⟩ | ⟨g, cap, cur, rfl, _, _, hnc, _⟩
  · simp [Builtin.append_, run_underlying ht, sizeOf, typeInfo, hi, Builtin.lenOf, Builtin.firstCells]
  · simp [Builtin.append_, run_underlying ht, sizeOf, typeInfo, hi, Builtin.lenOf, Builtin.firstCells, hnc, storeCells]
theorem wpList_append_src {P : Program} {w : World} {ops : Array Oper} {rest : List Oper} {o : Oper} {a : Act} {Q : Exit → Act → World → Prop} (hgd : o.guard = none) (s x : Operand) (t : TypeId)
    (ho : o.op = .call { callee := .builtin .append, args := #[s, x], argTypes := #[t, t] })
    (base : Nat) (e : TypeId) (i : TypeInfo) (z : Value) (size bytes : Nat) (ht : P.underlying t = some (.slice e)) (hi : P.info? e = some i) (hz : i.zero = some z)
    (hsize : i.size = size) (hby : i.bytes = bytes) (hzs : z.cells.size = size) (hsz : 0 < size)
    (v : Value) (n : Nat) (xs : List Value) (hs : a.eval s = v) (hown : w.ownsRow base e size v n xs)
    (xv : Value) (m : Nat) (news : List Value) (hx : a.eval x = xv) (hsrc : SrcL w xv m size news) (h1 : ∀ u ∈ news, u.oneCell' = true)
    (h63 : n + m ≤ maxLen) (hbytes : (n + m) * bytes ≤ 140737488355328) (hbase : base ≤ w.heap.size)
    (h : ∀ v' w', w'.ownsRow base e size v' (n + m) (xs ++ news) → w.grownBy w' v.ownBlock → wpList P ops Q rest (a.put o.dst v') w') : wpList P ops Q (o :: rest) a w := by
  rcases hsrc with ⟨⟨c, rfl⟩, rfl, rfl⟩ | ⟨ad, c, rfl, hl, hn⟩
  · refine wpList_plain hgd fun K hK => ?_
    have hrun := run_append_none (P := P) (w := w) base t o.type e i size c ht hi v n xs hown
    unfold Oper.wp
    simp [execOp, ho, resolve, invoke, builtin, hs, hx, hrun, Result.andThen]
    exact hK _ _ (h v w (by rw [List.append_nil]; exact hown) (World.grownBy.refl _ _))
  · exact wpList_append_own _ hgd s x t ho base e i z size bytes ht hi hz hsize hby hzs hsz v n xs hs hown ad m c news hx hl hn h1 h63 hbytes hbase (fun v' w' a b _ => h v' w' a b)
end Go.Proofs.YtkcjhfidgnbdiaaGreat
