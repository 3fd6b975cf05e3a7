/-
  Gapless: walks. Written by program (gen_gap.py). No condition.
  GivenTo: plain, and walks. No condition.
  'append(own, xs...)' where xs is a row of the call's own, nil or not: as one law. No condition.
  Texts that are read, and made again. No condition, no program.
-/
import Derived.Test.YtichegndafnjeaaGreatTypes
import Derived.Test.YtichegndafnjeaaGreatName
import Derived.Test.YtichegndafnjeaaGreatNest
import Derived.Laws.AppendOwnNone
import Derived.Test.YtichegndafnjeaaGreatTexts
import Derived.Test.YtichegndafnjeaaGreatEqs
namespace Go.Proofs.YtichegndafnjeaaGreat
open Go.RowKit
set_option linter.unusedVariables false

/-- Is it one's, and of a topic? -/
def ofWho (x : GivenD) (who : Int) (topic : ByteArray) : Bool := (x.who == who) && (x.entry.topic.toList == topic.toList)
def gap (who : Int) (topic : ByteArray) : Nat → Int → List GivenD → Bool
  | _, _, [] => true
  | n, last, x :: xs => if ofWho x who topic = true then (if x.entry.index = n ∧ (n = 0 ∨ last < x.leaf) then gap who topic (n + 1) x.leaf xs else false) else gap who topic n last xs
theorem gap_zero (who : Int) (topic : ByteArray) (a b : Int) : ∀ l : List GivenD, gap who topic 0 a l = gap who topic 0 b l
  | [] => rfl
  | x :: xs => by
    simp only [gap]
    split
    · simp
    · exact gap_zero who topic a b xs
def gaplessB (l : List GivenD) (who : Int) (topic : ByteArray) : Bool := decide (l.length ≤ 200) && gap who topic 0 0 l
def GapInv (l : List GivenD) (who : Int) (topic : ByteArray) (fin : Bool) (k n : Nat) (last : Int) : Prop := n ≤ k ∧ gap who topic n last (l.drop k) = fin
section
variable {l : List GivenD} {who : Int} {topic : ByteArray} {fin : Bool} {k n : Nat} {last : Int}
theorem GapInv.done (h : GapInv l who topic fin k n last) (hk : l.length ≤ k) : fin = true := by
  obtain ⟨_, h⟩ := h
  rw [List.drop_eq_nil_of_le hk] at h
  simpa [gap] using h.symm
theorem GapInv.other (h : GapInv l who topic fin k n last) (hk : k < l.length) (ho : ofWho l[k] who topic = false) : GapInv l who topic fin (k + 1) n last := by
  obtain ⟨h0, h⟩ := h
  rw [List.drop_eq_getElem_cons hk] at h
  simp only [gap, ho] at h
  exact ⟨by omega, by simpa using h⟩
theorem GapInv.bad (h : GapInv l who topic fin k n last) (hk : k < l.length) (ho : ofWho l[k] who topic = true) (hb : ¬ (l[k].entry.index = n ∧ (n = 0 ∨ last < l[k].leaf))) : fin = false := by
  obtain ⟨h0, h⟩ := h
  rw [List.drop_eq_getElem_cons hk] at h
  simp only [gap, ho, if_true, if_neg hb] at h
  exact h.symm
theorem GapInv.good (h : GapInv l who topic fin k n last) (hk : k < l.length) (ho : ofWho l[k] who topic = true) (hb : l[k].entry.index = n ∧ (n = 0 ∨ last < l[k].leaf)) : GapInv l who topic fin (k + 1) (n + 1) l[k].leaf := by
  obtain ⟨h0, h⟩ := h
  rw [List.drop_eq_getElem_cons hk] at h
  simp only [gap, ho, if_true, if_pos hb] at h
  exact ⟨by omega, h⟩
end

end Go.Proofs.YtichegndafnjeaaGreat
namespace Go.Proofs.YtichegndafnjeaaGreat
open Go.RowKit
set_option linter.unusedVariables false

/-- A slice of flat things in a row of the call's own. -/
def OwnF {α : Type} (f : α → List Value) (size : Nat) (t : TypeId) (W w : World) (v : Value) (l : List α) : Prop := w.ownsRow W.heap.size t size v l.length (l.flatMap f)
theorem OwnF.slf {α : Type} {f : α → List Value} {size : Nat} {t : TypeId} {W w : World} {v : Value} {l : List α} (h : OwnF f size t W w v l) : ∃ A c, v = .slice A l.length c ∧ SlF (FromB W.heap.size) f size w A l c := by
  have hr := h
  rcases hr.2 with ⟨h1, h2⟩ | ⟨g, cap, cur, hv, hg, hh, hnc, hm, hs, ht⟩
  · refine ⟨none, 0, by rw [h1, h2], ?_⟩
    obtain rfl : l = [] := List.eq_nil_of_length_eq_zero h2
    exact SlF.nil _ _ _ _
  · refine ⟨_, _, hv, ⟨hnc, hm, Reads.of_own (c := cap) (by rw [← hv]; exact h), fun _ a e => by cases e; exact hg⟩⟩
theorem OwnF.ext {α : Type} {f : α → List Value} {size : Nat} {t : TypeId} {W w w' : World} {v : Value} {l : List α} (h : OwnF f size t W w v l) (he : Ext w w') : OwnF f size t W w' v l := ownsRow_ext h he
theorem new_at (w : World) (cs : List Value) (t : TypeId) : ∀ j v, cs[j]? = some v → (w.alloc (.cells cs.toArray t)).cell? ((⟨w.heap.size, 0, none⟩ : Addr).add j) = some v := by
  intro j v hj
  rw [add_mk, (Blk.new w t cs.toArray).cell]; simpa using hj
theorem flat_snoc {α : Type} (f : α → List Value) (l : List α) (a : α) : l.flatMap f ++ f a = (l ++ [a]).flatMap f := by simp
theorem info_entry : (Tryz.prog.info? 47).map (fun i => (i.zero, i.size, i.bytes)) = some (some (.agg #[.string ⟨#[]⟩, .int .i64 0, .int .i64 0, .string ⟨#[]⟩, .string ⟨#[]⟩]), 5, 64) := by kernel_rfl
def givenTo (l : List GivenD) (who : Int) (topic : ByteArray) : List EntryD := if l.length ≤ 200 then (l.filter (fun x => ofWho x who topic)).map GivenD.entry else []
/-- What has been found of the first k. -/
def givenUp (l : List GivenD) (who : Int) (topic : ByteArray) (k : Nat) : List EntryD := ((l.take k).filter (fun x => ofWho x who topic)).map GivenD.entry
theorem givenUp_len (l : List GivenD) (who : Int) (topic : ByteArray) (k : Nat) : (givenUp l who topic k).length ≤ k := by
  unfold givenUp
  rw [List.length_map]
  exact Nat.le_trans (List.length_filter_le _ _) (by rw [List.length_take]; exact Nat.min_le_left _ _)
theorem givenUp_all {l : List GivenD} {who : Int} {topic : ByteArray} (h : l.length ≤ 200) : givenUp l who topic l.length = givenTo l who topic := by simp [givenUp, givenTo, h]
theorem givenTo_long {l : List GivenD} {who : Int} {topic : ByteArray} (h : ¬ l.length ≤ 200) : givenTo l who topic = [] := by rw [givenTo, if_neg h]
theorem givenUp_no {l : List GivenD} {who : Int} {topic : ByteArray} {k : Nat} {d : GivenD} (hd : l[k]? = some d) (h : ofWho d who topic = false) : givenUp l who topic (k + 1) = givenUp l who topic k := by
  obtain ⟨hk, rfl⟩ := List.getElem?_eq_some_iff.1 hd
  unfold givenUp
  rw [List.take_succ_eq_append_getElem hk, List.filter_append]
  simp [h]
theorem givenUp_yes {l : List GivenD} {who : Int} {topic : ByteArray} {k : Nat} {d : GivenD} (hd : l[k]? = some d) (h : ofWho d who topic = true) : givenUp l who topic (k + 1) = givenUp l who topic k ++ [d.entry] := by
  obtain ⟨hk, rfl⟩ := List.getElem?_eq_some_iff.1 hd
  unfold givenUp
  rw [List.take_succ_eq_append_getElem hk, List.filter_append]
  simp [h]
theorem givenTo_len (l : List GivenD) (who : Int) (topic : ByteArray) : (givenTo l who topic).length ≤ 200 := by
  unfold givenTo
  split
  · rw [List.length_map]; exact Nat.le_trans (List.length_filter_le _ _) (by assumption)
  · simp
theorem given_at {l : List GivenD} {w : World} {b off : Nat} {k : Nat} {d : GivenD} (hc : ∀ j u, (l.flatMap GivenD.cells)[k * 7 + j]? = some u → w.cell? ⟨b, off + k * 7 + j, none⟩ = some u) (hd : l[k]? = some d) :
    w.cell? ⟨b, off + k * 7, none⟩ = some (.int .i64 d.who) ∧ w.cell? ⟨b, off + k * 7 + 1, none⟩ = some (.int .i64 d.leaf) ∧ w.cell? ⟨b, off + k * 7 + 2, none⟩ = some (.string d.entry.topic) ∧ w.cell? ⟨b, off + k * 7 + 3, none⟩ = some (.int .i64 d.entry.index) ∧ w.cell? ⟨b, off + k * 7 + 4, none⟩ = some (.int .i64 d.entry.time) ∧ w.cell? ⟨b, off + k * 7 + 5, none⟩ = some (.string d.entry.key) ∧ w.cell? ⟨b, off + k * 7 + 6, none⟩ = some (.string d.entry.body) :=
  ⟨hc 0 _ (flat_at _ 7 GivenD.cells_length l k 0 d hd (by omega)), hc 1 _ (flat_at _ 7 GivenD.cells_length l k 1 d hd (by omega)), hc 2 _ (flat_at _ 7 GivenD.cells_length l k 2 d hd (by omega)), hc 3 _ (flat_at _ 7 GivenD.cells_length l k 3 d hd (by omega)), hc 4 _ (flat_at _ 7 GivenD.cells_length l k 4 d hd (by omega)), hc 5 _ (flat_at _ 7 GivenD.cells_length l k 5 d hd (by omega)), hc 6 _ (flat_at _ 7 GivenD.cells_length l k 6 d hd (by omega))⟩
end Go.Proofs.YtichegndafnjeaaGreat
namespace Go.Proofs.YtichegndafnjeaaGreat
open Go.RowKit
set_option linter.unusedVariables false

/-- A source of an append. -/
def SrcL (w : World) (x : Value) (m size : Nat) (news : List Value) : Prop :=
  (x = .slice none 0 0 ∧ m = 0 ∧ news = []) ∨ ∃ ad c, x = .slice (some ad) m c ∧ news.length = m * size ∧ ∀ j u, news[j]? = some u → w.cell? (ad.add j) = some u
theorem srcL_own {w : World} {B e size n : Nat} {v : Value} {xs : List Value} (h : w.ownsRow B e size v n xs) : SrcL w v n size xs := by
  have h0 := h
  rcases h.2 with ⟨h1, h2⟩ | ⟨g, cap, cur, hv, hg, hh, hnc, hm, hs, ht⟩
  · refine .inl ⟨h1, h2, ?_⟩
    have := h.1
    rw [h2, Nat.zero_mul] at this
    exact List.eq_nil_of_length_eq_zero this
  · have hr : Reads w w.heap.size size (some ⟨g, 0, none⟩) n xs := Reads.of_own (c := cap) (by rw [← hv]; exact h0)
    refine .inr ⟨_, _, hv, h.1, fun j u hu => ?_⟩
    rw [add_mk]
    have hn : 0 < n := by
      rcases Nat.eq_zero_or_pos n with h2 | h2
      · have h3 := h.1
        rw [h2, Nat.zero_mul] at h3
        rw [List.eq_nil_of_length_eq_zero h3] at hu; simp at hu
      · exact h2
    obtain ⟨b, off, e, _, hc⟩ := hr.2 hn
    cases e
    exact hc j u hu
theorem srcL_keep {w w' : World} {x : Value} {m size : Nat} {news : List Value} (h : SrcL w x m size news) (hk : ∀ p : Addr, ∀ u, w.cell? p = some u → w'.cell? p = some u) : SrcL w' x m size news := by
  rcases h with h | ⟨ad, c, h1, h2, h3⟩
  · exact .inl h
  · exact .inr ⟨ad, c, h1, h2, fun j u hu => hk _ _ (h3 j u hu)⟩
theorem wpList_append_src {P : Program} {w : World} {ops : Array Oper} {rest : List Oper} {o : Oper} {a : Act} {Q : Exit → Act → World → Prop} (hgd : o.guard = none) (s x : Operand) (t : TypeId)
    (ho : o.op = .call { callee := .builtin .append, args := #[s, x], argTypes := #[t, t] })
    (base : Nat) (e : TypeId) (i : TypeInfo) (z : Value) (size bytes : Nat) (ht : P.underlying t = some (.slice e)) (hi : P.info? e = some i) (hz : i.zero = some z)
    (hsize : i.size = size) (hby : i.bytes = bytes) (hzs : z.cells.size = size) (hsz : 0 < size)
    (v : Value) (n : Nat) (xs : List Value) (hs : a.eval s = v) (hown : w.ownsRow base e size v n xs)
    (xv : Value) (m : Nat) (news : List Value) (hx : a.eval x = xv) (hsrc : SrcL w xv m size news) (h1 : ∀ u ∈ news, u.oneCell' = true)
    (h63 : n + m ≤ maxLen) (hbytes : (n + m) * bytes ≤ 140737488355328) (hbase : base ≤ w.heap.size)
    (h : ∀ v' w', w'.ownsRow base e size v' (n + m) (xs ++ news) → w.grownBy w' v.ownBlock → wpList P ops Q rest (a.put o.dst v') w') : wpList P ops Q (o :: rest) a w := by
  rcases hsrc with ⟨rfl, rfl, rfl⟩ | ⟨ad, c, rfl, hl, hn⟩
  · refine wpList_append_own_none hgd s x t ho base e i size ht hi v n xs hs hown hx (h v w ?_ (World.grownBy.refl _ _))
    rw [List.append_nil]; exact hown
  · exact wpList_append_own _ hgd s x t ho base e i z size bytes ht hi hz hsize hby hzs hsz v n xs hs hown ad m c news hx hl hn h1 h63 hbytes hbase (fun v' w' a b _ => h v' w' a b)
end Go.Proofs.YtichegndafnjeaaGreat
namespace Go.Proofs.YtichegndafnjeaaGreat
open Go.RowKit
set_option linter.unusedVariables false

/-- What was read so far. -/
def Sofar (T : ByteArray) (r : Rd) (X : ByteArray) : Prop := r.bad = false → T.extract 0 r.pos = X ∧ r.pos ≤ T.size
theorem Sofar.start (T : ByteArray) : Sofar T ⟨0, false⟩ ⟨#[]⟩ := fun _ => ⟨by simp; rfl, Nat.zero_le _⟩
theorem rdNext_ok {T : ByteArray} {r : Rd} {n : Nat} (h : (rdNext T r n).bad = false) : r.bad = false ∧ (rdNext T r n).pos = r.pos + n ∧ r.pos + n ≤ T.size ∧ rdTake T r n = T.extract r.pos (r.pos + n) := by
  unfold rdNext at h ⊢
  unfold rdTake
  cases hf : rdFails T r n
  · simp only [rdFails, Bool.or_eq_false_iff, decide_eq_false_iff_not] at hf
    exact ⟨hf.1, rfl, by omega, rfl⟩
  · rw [hf] at h; simp at h
theorem Sofar.take {T : ByteArray} {r : Rd} {X : ByteArray} (h : Sofar T r X) (n : Nat) : Sofar T (rdNext T r n) (X ++ rdTake T r n) := by
  intro hb
  obtain ⟨h1, h2, h3, h4⟩ := rdNext_ok hb
  obtain ⟨h5, h6⟩ := h h1
  refine ⟨?_, by omega⟩
  rw [h2, h4, ← h5]
  exact ByteArray.extract_eq_extract_append_extract r.pos (Nat.zero_le _) (by omega)
theorem rdTake_full {T : ByteArray} {r : Rd} {n : Nat} (h : (rdNext T r n).bad = false) : (rdTake T r n).size = n := by
  obtain ⟨h1, h2, h3, h4⟩ := rdNext_ok h
  rw [h4, ByteArray.size_extract]; omega
theorem ofNat_mod (m : Nat) (c : UInt8) (h : m % 256 = c.toNat) : UInt8.ofNat m = c := by
  apply UInt8.toNat_inj.1
  rw [UInt8.toNat_ofNat']
  have := c.toNat_lt
  show m % 256 = _
  omega
theorem one_of (b : ByteArray) (h : b.size = 1) : octB (beNum b : Int) = b := by
  obtain ⟨⟨l⟩⟩ := b
  match l, h with
  | [c], _ =>
    simp only [beNum, octB, ofInts, List.foldl_cons, List.foldl_nil, List.map_cons, List.map_nil]
    rw [ofNat_mod _ c (by have := c.toNat_lt; omega)]
theorem two_of (b : ByteArray) (h : b.size = 2) : octB ((beNum b : Int) / 256) ++ octB (beNum b : Int) = b := by
  obtain ⟨⟨l⟩⟩ := b
  match l, h with
  | [c, d], _ =>
    simp only [beNum, octB, ofInts, List.foldl_cons, List.foldl_nil, List.map_cons, List.map_nil]
    rw [ofNat_mod _ c (by have := c.toNat_lt; have := d.toNat_lt; omega), ofNat_mod _ d (by have := c.toNat_lt; have := d.toNat_lt; omega)]
    rfl
theorem lenB (b x : ByteArray) (h : b.size = 1) (hx : x.size = beNum b) : octB (x.size : Int) = b := by rw [hx, one_of b h]
/-- The text that was told and the text that is made again of what was read. -/
theorem reread {T K k X : ByteArray} {r : Rd} (h : Sofar T r (K ++ X)) (hb : r.bad = false) (hs : K.size = k.size) : (decide (K = k) && rdDone T r) = decide (k ++ X = T) := by
  obtain ⟨h1, h2⟩ := h hb
  rw [Bool.eq_iff_iff]
  simp only [rdDone, hb, Bool.and_eq_true, decide_eq_true_eq, Bool.not_false, true_and]
  constructor
  · rintro ⟨rfl, h3⟩
    rw [← h1, h3]; exact ByteArray.extract_zero_size
  · intro h3
    have h4 := congrArg ByteArray.size h1
    have h5 := congrArg ByteArray.size h3
    rw [ByteArray.size_extract] at h4
    rw [ByteArray.size_append] at h4 h5
    have h6 : r.pos = T.size := by omega
    refine ⟨?_, h6⟩
    have h7 : K ++ X = k ++ X := by rw [← h1, h3, h6]; exact ByteArray.extract_zero_size
    exact ByteArray.append_inj_left h7 hs
theorem reread_bad {T : ByteArray} {r : Rd} (hb : r.bad = true) : rdDone T r = false := by simp [rdDone, hb]
theorem rdShortNext_ok {T : ByteArray} {r : Rd} {n : Nat} (h : (rdShortNext T r n).bad = false) : r.bad = false ∧ (rdNext T r n).bad = false ∧ (rdTake T r n).size = n ∧ (rdShort T r n).size = beNum (rdTake T r n) := by
  have h1 : (rdNext T r n).bad = false := (rdNext_ok h).1
  exact ⟨(rdNext_ok h1).1, h1, rdTake_full h1, rdTake_full h⟩
theorem bytes_beq (a b : ByteArray) : (a.toList == b.toList) = decide (a = b) := by
  rw [Bool.eq_iff_iff]; simp [bytes_eq_iff]
theorem kind_of (b : ByteArray) (c : UInt8) : (b.toList == [c]) = decide (b = ⟨#[c]⟩) := by
  have h : (⟨#[c]⟩ : ByteArray).toList = [c] := by rw [ByteArray.toList_eq]
  have h2 := bytes_beq b ⟨#[c]⟩
  rw [h] at h2
  exact h2
end Go.Proofs.YtichegndafnjeaaGreat
