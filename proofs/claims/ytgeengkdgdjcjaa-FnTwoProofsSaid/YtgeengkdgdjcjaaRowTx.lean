/-
  RowTx: No condition.
-/
import Derived.Test.YtgeengkdgdjcjaaAppSrc
import Derived.Test.YtgeengkdgdjcjaaFrm
import Derived.Test.YtgeengkdgdjcjaaNString
namespace Go.Proofs.Ytgeengkdgdjcjaa
set_option linter.unusedSimpArgs false
open Go.RowKit
set_option linter.unusedVariables false
def RowT (B : Nat) (w : World) (v : Value) (ts : List ByteArray) : Prop := w.ownsRow B 9 1 v ts.length (ts.flatMap sone)
theorem RowT.ext {B : Nat} {w w' : World} {v : Value} {ts : List ByteArray} (h : RowT B w v ts) (he : Ext w w') : RowT B w' v ts := ownsRow_ext h he
theorem RowT.of {B : Nat} {w : World} {v : Value} {n : Nat} {xs : List Value} {ts : List ByteArray} (h : w.ownsRow B 9 1 v n xs) (hn : n = ts.length) (hx : xs = ts.flatMap sone) : RowT B w v ts := by
 subst hn; subst hx; exact h
theorem RowT.lt {B : Nat} {w : World} {v : Value} {ts : List ByteArray} (h : RowT B w v ts) : ∀ b, v.ownBlock = some b → B ≤ b ∧ b < w.heap.size := fun b hb => World.ownsRow.lt h b hb
theorem slf_at {α : Type} {f : α → List Value} {size B : Nat} {t : TypeId} {w : World} {A : Option Addr} {c : Nat} {l : List α} (h : w.ownsRow B t size (.slice A l.length c) l.length (l.flatMap f)) : SlF AnyB f size w A l c := by
 obtain ⟨A', c', e, s⟩ := slf_own h
 cases e
 exact s.any
theorem RowT.put_at {K n : Nat} {w : World} {V : Option Addr} {c : Nat} {ts : List ByteArray} (h : RowT K w (.slice V n c) ts) (hn : ts.length = n) {k : Nat} (hk : k < n) :
 ∃ q, V = some ⟨q, 0, none⟩ ∧ K ≤ q ∧ q < w.heap.size ∧ (∀ T, ts[k]? = some T → w.cell? ⟨q, k, none⟩ = some (.string T)) ∧ w.frozen? ⟨q, k, none⟩ = false ∧
  ∀ u : ByteArray, RowT K (w.setCell ⟨q, k, none⟩ (.string u)) (.slice V n c) (ts.set k u) := by
 have e0 : ∀ ts : List ByteArray, ts.flatMap sone = ts.map Value.string := fun ts => by
  induction ts with
  | nil => rfl
  | cons x l ih => rw [List.flatMap_cons, ih]; rfl
 subst hn
 obtain ⟨hl, h1 | ⟨q, cap, cur, hv, hq, hh, hn, hm, hs, ht⟩⟩ := h
 · obtain ⟨_, h2⟩ := h1; omega
 cases hv
 have hb : Blk w q 9 cur := hh
 rw [Nat.mul_one] at hs ht
 rw [e0] at ht
 refine ⟨q, rfl, hq, hb.lt, fun T hT => ?_, hb.frozen k, fun u => ?_⟩
 · rw [hb.cell k]
   have h3 : (cur.toList.take ts.length)[k]? = some (.string T) := by rw [ht, List.getElem?_map, hT]; rfl
   rw [List.getElem?_take, if_pos hk] at h3
   simpa using h3
 · refine ⟨by rw [List.length_set, e0, List.length_map, List.length_set, Nat.mul_one], Or.inr ⟨q, c, cur.setIfInBounds k (.string u), by rw [List.length_set], hq, hb.set_ k (.string u), by rw [List.length_set]; exact hn, hm, by rw [Array.size_setIfInBounds, Nat.mul_one]; exact hs, ?_⟩⟩
   rw [List.length_set, Nat.mul_one, Array.toList_setIfInBounds, List.take_set, ht, e0, List.map_set]
theorem srcT_ext {w w' : World} {x : Value} {m size : Nat} {news : List Value} {B : Nat} (h : SrcL w x m size news) (he : Below B w w') (hB : B = w.heap.size) : SrcL w' x m size news := by
 refine srcL_keep h fun p u hu => ?_
 subst hB
 by_cases hb : p.block < w.heap.size
 · exact (Below.cell he (p := p) hb).trans hu
 · exfalso
   have : w.heap[p.block]? = none := Array.getElem?_eq_none (by omega)
   simp [World.cell?, this] at hu
theorem srcT_reads {w : World} {B size n c : Nat} {A : Option Addr} {xs : List Value} (h : Reads w B size A n xs) : SrcL w (.slice A n c) n size xs := by
 cases A with
 | none =>
   have hn : n = 0 := by
    rcases Nat.eq_zero_or_pos n with h0 | h0
    · exact h0
    · obtain ⟨b, off, e, _⟩ := h.2 h0; cases e
   subst hn
   have hx : xs = [] := List.eq_nil_of_length_eq_zero (by simpa using h.1)
   exact .inl ⟨⟨c, rfl⟩, rfl, hx⟩
 | some a =>
   refine .inr ⟨a, c, rfl, h.1, fun j u hu => ?_⟩
   have hn : 0 < n := by
    rcases Nat.eq_zero_or_pos n with h0 | h0
    · subst h0
      have hx : xs = [] := List.eq_nil_of_length_eq_zero (by simpa using h.1)
      rw [hx] at hu; simp at hu
    · exact h0
   obtain ⟨b, off, e, _, hc⟩ := h.2 hn
   cases e
   have h2 := hc j u hu
   unfold Addr.add
   split
   · rename_i h3; rw [h3, Nat.add_zero] at h2; exact h2
   · exact h2
theorem sone_one (l : List ByteArray) : ∀ u ∈ l.flatMap sone, u.oneCell' = true := fun u hu => by
 obtain ⟨x, _, hx⟩ := List.mem_flatMap.1 hu
 simp only [sone, List.mem_cons, List.not_mem_nil, or_false] at hx
 subst hx; rfl
theorem RowT.new {K : Nat} (w : World) (l : List ByteArray) (hK : K ≤ w.heap.size) (hl : l.length ≤ 1000) : RowT K (w.alloc (.cells (l.map Value.string).toArray 9)) (.slice (some ⟨w.heap.size, 0, none⟩) l.length l.length) l := by
 have e0 : ∀ ts : List ByteArray, ts.flatMap sone = ts.map Value.string := fun ts => by
  induction ts with
  | nil => rfl
  | cons x l ih => rw [List.flatMap_cons, ih]; rfl
 refine ⟨by rw [e0, List.length_map, Nat.mul_one], Or.inr ⟨w.heap.size, l.length, (l.map Value.string).toArray, rfl, hK, Blk.new w 9 _, Nat.le_refl _, by unfold maxLen; omega, by simp, ?_⟩⟩
 rw [e0, Nat.mul_one, List.take_of_length_le (by simp)]
end Go.Proofs.Ytgeengkdgdjcjaa
