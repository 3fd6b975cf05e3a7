/-
  Nest: No condition.
-/
import Derived.Test.YthnpdoadmglipaaGreatHashTop
namespace Go.Proofs.YthnpdoadmglipaaGreat
set_option linter.unusedSimpArgs false
open Go.RowKit
set_option linter.unusedVariables false
theorem two_new (w : World) (x2 x3 : Array Value) (t2 t3 : TypeId) :
 Blk ((w.alloc (.cells x2 t2)).alloc (.cells x3 t3)) w.heap.size t2 x2 ∧ Blk ((w.alloc (.cells x2 t2)).alloc (.cells x3 t3)) (w.heap.size + 1) t3 x3 ∧ Ext w ((w.alloc (.cells x2 t2)).alloc (.cells x3 t3)) := by
 have h3 : (w.alloc (.cells x2 t2)).heap.size = w.heap.size + 1 := by simp
 refine ⟨(Blk.new w t2 x2).alloc _, ?_, Ext.new (Ext.new (Below.refl w.heap.size w) _) _⟩
 have := Blk.new (w.alloc (.cells x2 t2)) t3 x3; rwa [h3] at this
def sone (s : ByteArray) : List Value := [.string s]
theorem sone_length (s : ByteArray) : (sone s).length = 1 := rfl
def Keep (p : Nat → Prop) (w w' : World) : Prop := w.heap.size ≤ w'.heap.size ∧ ∀ b, p b → b < w.heap.size → w'.heap[b]? = w.heap[b]?
theorem Ext.keep {w w' : World} (he : Ext w w') (p : Nat → Prop) : Keep p w w' := ⟨he.size, fun b _ h => he.block b h⟩
theorem size_setCells (g : Nat) : ∀ (vs : List Value) (o : Nat) (w : World), (w.setCells g o vs).heap.size = w.heap.size
 | [], _, _ => rfl
 | v :: vs, o, w => by rw [World.setCells, size_setCells g vs]; simp [World.setCell]
theorem heap_setCells {g b : Nat} (hb : b ≠ g) : ∀ (vs : List Value) (o : Nat) (w : World), (w.setCells g o vs).heap[b]? = w.heap[b]?
 | [], _, _ => rfl
 | v :: vs, o, w => by rw [World.setCells, heap_setCells hb vs]; exact Below.heap_setCell _ ⟨g, o, none⟩ _ _ hb
theorem Keep.setCells {p : Nat → Prop} {g : Nat} (hg : ¬ p g) (vs : List Value) (o : Nat) (w : World) : Keep p w (w.setCells g o vs) :=
 ⟨Nat.le_of_eq (size_setCells g vs o w).symm, fun b hb _ => heap_setCells (fun e => hg (by rw [← e]; exact hb)) vs o w⟩
def AnyB : Nat → Prop := fun _ => True
def FromB (B : Nat) : Nat → Prop := fun b => B ≤ b
structure SlF {α : Type} (p : Nat → Prop) (f : α → List Value) (size : Nat) (w : World) (A : Option Addr) (l : List α) (c : Nat) : Prop where
 le : l.length ≤ c
 cap : c ≤ maxLen
 reads : ReadsL w w.heap.size f size A l
 low : 0 < l.length → ∀ a, A = some a → p a.block
section
variable {α : Type} {p q : Nat → Prop} {f : α → List Value} {size : Nat} {w w' : World} {A : Option Addr} {l : List α} {c : Nat}
theorem SlF.keep (h : SlF p f size w A l c) (he : Keep p w w') : SlF p f size w' A l c := by
 obtain ⟨h1, h2, h3, h4⟩ := h
 refine ⟨h1, h2, ⟨h3.1, fun hn => ?_⟩, h4⟩
 obtain ⟨b, off, e, hb, hc⟩ := h3.2 hn
 exact ⟨b, off, e, Nat.lt_of_lt_of_le hb he.1, fun j u hu => (World.cell?_of_block (w := w) (he.2 b (h4 hn _ e) hb)).trans (hc j u hu)⟩
theorem SlF.ext (h : SlF p f size w A l c) (he : Ext w w') : SlF p f size w' A l c := h.keep (he.keep p)
theorem SlF.drew (h : SlF p f size w A l c) : SlF p f size w.drew A l c := ⟨h.le, h.cap, h.reads, h.low⟩
theorem SlF.len (h : SlF p f size w A l c) : l.length ≤ maxLen := Nat.le_trans h.le h.cap
theorem SlF.mono (h : SlF p f size w A l c) (hp : ∀ b, p b → q b) : SlF q f size w A l c := ⟨h.le, h.cap, h.reads, fun h0 a e => hp _ (h.low h0 a e)⟩
theorem SlF.any (h : SlF p f size w A l c) : SlF AnyB f size w A l c := h.mono fun _ _ => trivial
theorem SlF.nil (p : Nat → Prop) (f : α → List Value) (size : Nat) (w : World) : SlF p f size w none [] 0 := ⟨Nat.le_refl _, Nat.zero_le _, Reads.nil_, fun h => absurd h (Nat.lt_irrefl 0)⟩
theorem SlF.new {g : Nat} {t : TypeId} (hf : ∀ a, (f a).length = size) (h : Blk w g t (l.flatMap f).toArray) (hl : l.length ≤ 1048576) (hp : p g) : SlF p f size w (some ⟨g, 0, none⟩) l l.length :=
 ⟨Nat.le_refl _, by unfold maxLen; omega, h.readsL hf, fun _ a e => by cases e; exact hp⟩
end
abbrev Rep (α : Type) := (Nat → Prop) → World → List Value → α → Prop
structure Steady {α : Type} (R : Rep α) : Prop where
 keep : ∀ {p : Nat → Prop} {w w' : World} {cs : List Value} {a : α}, R p w cs a → Keep p w w' → R p w' cs a
 mono : ∀ {p q : Nat → Prop} {w : World} {cs : List Value} {a : α}, R p w cs a → (∀ b, p b → q b) → R q w cs a
structure SlN {α : Type} (p : Nat → Prop) (R : Rep α) (size : Nat) (w : World) (A : Option Addr) (l : List α) (c : Nat) : Prop where
 le : l.length ≤ c
 cap : c ≤ maxLen
 reads : ∃ css : List (List Value), css.length = l.length ∧ (∀ cs ∈ css, cs.length = size) ∧ (∀ (i : Nat) (cs : List Value) (a : α), css[i]? = some cs → l[i]? = some a → R p w cs a) ∧ ReadsL w w.heap.size id size A css
 low : 0 < l.length → ∀ a, A = some a → p a.block
theorem flat_id_at {size : Nat} : ∀ (css : List (List Value)), (∀ cs ∈ css, cs.length = size) → ∀ (k j : Nat) (cs : List Value), css[k]? = some cs → j < size → (css.flatMap id)[k * size + j]? = cs[j]?
 | [], _, k, j, a, h, _ => by simp at h
 | b :: l, hs, 0, j, a, h, hj => by
   obtain rfl : b = a := by simpa using h
   simp only [Nat.zero_mul, Nat.zero_add, List.flatMap_cons]
   rw [List.getElem?_append_left (by rw [id, hs b (by simp)]; exact hj)]
   rfl
 | b :: l, hs, k + 1, j, a, h, hj => by
   rw [List.flatMap_cons, Nat.succ_mul, List.getElem?_append_right (by rw [id, hs b (by simp)]; omega), id, hs b (by simp), show k * size + size + j - size = k * size + j by omega]
   exact flat_id_at l (fun cs h => hs cs (by simp [h])) k j a (by simpa using h) hj
theorem flat_id_len {size : Nat} : ∀ (css : List (List Value)), (∀ cs ∈ css, cs.length = size) → (css.flatMap id).length = css.length * size
 | [], _ => by simp
 | b :: l, hs => by rw [List.flatMap_cons, List.length_append, id, hs b (by simp), flat_id_len l (fun cs h => hs cs (by simp [h])), List.length_cons, Nat.succ_mul]; omega
section
variable {α : Type} {p q : Nat → Prop} {R : Rep α} {size : Nat} {w w' : World} {A : Option Addr} {l : List α} {c : Nat}
theorem SlN.keep (hR : Steady R) (h : SlN p R size w A l c) (he : Keep p w w') : SlN p R size w' A l c := by
 obtain ⟨h1, h2, ⟨css, h3, h4, h5, h6⟩, h7⟩ := h
 refine ⟨h1, h2, ⟨css, h3, h4, fun i cs a x y => hR.keep (h5 i cs a x y) he, h6.1, fun hn => ?_⟩, h7⟩
 obtain ⟨b, off, e, hb, hc⟩ := h6.2 hn
 exact ⟨b, off, e, Nat.lt_of_lt_of_le hb he.1, fun j u hu => (World.cell?_of_block (w := w) (he.2 b (h7 (by omega) _ e) hb)).trans (hc j u hu)⟩
theorem SlN.ext (hR : Steady R) (h : SlN p R size w A l c) (he : Ext w w') : SlN p R size w' A l c := h.keep hR (he.keep p)
theorem SlN.len (h : SlN p R size w A l c) : l.length ≤ maxLen := Nat.le_trans h.le h.cap
theorem SlN.mono (hR : Steady R) (h : SlN p R size w A l c) (hp : ∀ b, p b → q b) : SlN q R size w A l c := by
 obtain ⟨h1, h2, ⟨css, h3, h4, h5, h6⟩, h7⟩ := h
 exact ⟨h1, h2, ⟨css, h3, h4, fun i cs a x y => hR.mono (h5 i cs a x y) hp, h6⟩, fun h0 a e => hp _ (h7 h0 a e)⟩
theorem SlN.any (hR : Steady R) (h : SlN p R size w A l c) : SlN AnyB R size w A l c := h.mono hR fun _ _ => trivial
theorem SlN.nil (p : Nat → Prop) (R : Rep α) (size : Nat) (w : World) : SlN p R size w none [] 0 := ⟨Nat.le_refl _, Nat.zero_le _, ⟨[], rfl, by simp, by simp, Reads.nil_⟩, fun h => absurd h (Nat.lt_irrefl 0)⟩
theorem SlN.at_ (h : SlN p R size w A l c) {k : Nat} (hk : k < l.length) : ∃ b off cs, A = some ⟨b, off, none⟩ ∧ b < w.heap.size ∧ cs.length = size ∧ R p w cs l[k] ∧ ∀ j u, j < size → cs[j]? = some u → w.cell? ⟨b, off + k * size + j, none⟩ = some u := by
 obtain ⟨h1, h2, ⟨css, h3, h4, h5, h6⟩, h7⟩ := h
 have hkc : css[k]? = some (css[k]'(by omega)) := List.getElem?_eq_getElem (by omega)
 obtain ⟨b, off, e, hb, hc⟩ := Reads.at_ h6 (k := k) (by omega)
 exact ⟨b, off, _, e, hb, h4 _ (List.getElem_mem (by omega)), h5 k _ _ hkc (List.getElem?_eq_getElem hk), fun j u hj hu => hc j u (by rw [flat_id_at css h4 k j _ hkc hj]; exact hu)⟩
end
def FilledN {α : Type} (R : Rep α) (size : Nat) (t : TypeId) (l : List α) (g : Nat) (Z : Array Value) (k : Nat) (wr : World) : Prop :=
 ∃ css : List (List Value), css.length = k ∧ (∀ cs ∈ css, cs.length = size) ∧ (∀ (i : Nat) (cs : List Value) (a : α), css[i]? = some cs → l[i]? = some a → R (FromB (g + 1)) wr cs a) ∧ Blk wr g t (css.flatMap id ++ Z.toList.drop (k * size)).toArray
section
variable {α : Type} {R : Rep α} {size : Nat} {t : TypeId} {l : List α} {g : Nat} {Z : Array Value} {k : Nat} {wr w1 : World}
theorem FilledN.ext (hR : Steady R) (h : FilledN R size t l g Z k wr) (he : Ext wr w1) : FilledN R size t l g Z k w1 := by
 obtain ⟨css, h1, h2, h3, h4⟩ := h
 exact ⟨css, h1, h2, fun i cs a x y => hR.keep (h3 i cs a x y) (he.keep _), h4.ext he⟩
theorem FilledN.frozen (h : FilledN R size t l g Z k wr) (i : Nat) : wr.frozen? ⟨g, i, none⟩ = false := by
 obtain ⟨css, h1, h2, h3, h4⟩ := h
 exact h4.frozen i
theorem FilledN.lt (h : FilledN R size t l g Z k wr) : g < wr.heap.size := by
 obtain ⟨css, h1, h2, h3, h4⟩ := h
 exact h4.lt
theorem FilledN.there (hZ : Z.size = l.length * size) (h : FilledN R size t l g Z k wr) (hk : k < l.length) : wr.there g (k * size) size := by
 obtain ⟨css, h1, h2, h3, h4⟩ := h
 refine Blk.there h4 _ _ ?_
 have e2 : (k + 1) * size ≤ l.length * size := Nat.mul_le_mul_right _ hk
 rw [Nat.succ_mul] at e2
 simp only [List.size_toArray, List.length_append, flat_id_len css h2, List.length_drop, Array.length_toList, hZ, h1]
 omega
theorem FilledN.step (hS : Steady R) (hZ : Z.size = l.length * size) (h : FilledN R size t l g Z k wr) (hk : k < l.length) {cs : List Value} (hcs : cs.length = size) (hc : R (FromB (g + 1)) wr cs l[k]) : FilledN R size t l g Z (k + 1) (wr.setCells g (k * size) cs) := by
 obtain ⟨css, h1, h2, h3, h4⟩ := h
 have hK : Keep (FromB (g + 1)) wr (wr.setCells g (k * size) cs) := Keep.setCells (by unfold FromB; omega) _ _ _
 have e2 : (k + 1) * size ≤ l.length * size := Nat.mul_le_mul_right _ hk
 have hl1 : (css.flatMap id).length = k * size := by rw [flat_id_len css h2, h1]
 have hb := Blk.setCells cs (k * size) _ _ h4 (by rw [Nat.succ_mul] at e2; simp only [List.size_toArray, List.length_append, hl1, List.length_drop, Array.length_toList, hZ, hcs]; omega)
 refine ⟨css ++ [cs], by simp [h1], ?_, ?_, ?_⟩
 · intro x hx
   rcases List.mem_append.1 hx with hx | hx
   · exact h2 x hx
   · obtain rfl : x = cs := by simpa using hx
     exact hcs
 · intro i x a hx ha
   rcases Nat.lt_or_ge i k with hi | hi
   · rw [List.getElem?_append_left (by omega)] at hx
     exact hS.keep (h3 i x a hx ha) hK
   · rw [List.getElem?_append_right (by omega)] at hx
     have : i - css.length = 0 := by
      have := (List.getElem?_eq_some_iff.1 hx).1
      simp at this; omega
     obtain rfl : i = k := by omega
     rw [this] at hx
     obtain rfl : cs = x := by simpa using hx
     rw [List.getElem?_eq_getElem hk] at ha
     obtain rfl : l[i] = a := by simpa using ha
     exact hS.keep hc hK
 · rw [show (css ++ [cs]).flatMap id = css.flatMap id ++ cs by simp]
   generalize css.flatMap id = X at hl1 hb
   have q1 : (X ++ Z.toList.drop (k * size)).take (k * size) = X := by rw [List.take_append_of_le_length (by omega), List.take_of_length_le (by omega)]
   have q2 : (X ++ Z.toList.drop (k * size)).drop (k * size + size) = Z.toList.drop ((k + 1) * size) := by
    rw [List.drop_append, List.drop_eq_nil_of_le (by omega), List.nil_append, List.drop_drop, hl1, show k * size + (k * size + size - k * size) = (k + 1) * size by rw [Nat.succ_mul]; omega]
   simp only [hcs, q1, q2] at hb
   exact hb
theorem FilledN.done (hS : Steady R) (hZ : Z.size = l.length * size) (h : FilledN R size t l g Z k wr) (hk : k = l.length) (hl : l.length ≤ 1048576) {p : Nat → Prop} (hp : ∀ b, g ≤ b → p b) : SlN p R size wr (some ⟨g, 0, none⟩) l l.length := by
 subst hk
 obtain ⟨css, h1, h2, h3, h4⟩ := h
 rw [List.drop_eq_nil_of_le (by rw [Array.length_toList, hZ]; exact Nat.le_refl _), List.append_nil] at h4
 exact ⟨Nat.le_refl _, by unfold maxLen; omega, ⟨css, h1, h2, fun i cs a x y => hS.mono (h3 i cs a x y) (fun b hb => hp b (by unfold FromB at hb; omega)), Blk.reads h4 css.length size (flat_id_len css h2)⟩, fun _ a e => by cases e; exact hp _ (Nat.le_refl _)⟩
theorem FilledN.start (R : Rep α) (size : Nat) (t : TypeId) (l : List α) (w : World) (Z : Array Value) : FilledN R size t l w.heap.size Z 0 (w.alloc (.cells Z t)) :=
 ⟨[], rfl, by simp, by simp, by simpa using Blk.new w t Z⟩
end
theorem Blk.range {w : World} {g t : Nat} {cs : List Value} (h : Blk w g t cs.toArray) : w.rangeAt g 0 cs := fun j v hv => by rw [Nat.zero_add, h.cell]; simpa using hv
end Go.Proofs.YthnpdoadmglipaaGreat
