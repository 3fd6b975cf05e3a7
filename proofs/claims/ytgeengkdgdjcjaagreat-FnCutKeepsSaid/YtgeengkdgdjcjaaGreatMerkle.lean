/-
  Nest; NString; Path; Merkle: No condition.
-/
import Derived.Test.YtgeengkdgdjcjaaGreatHashTop
import Derived.Test.YtgeengkdgdjcjaaGreatWords
import Derived.StillTailTactics
import Derived.Test.YtgeengkdgdjcjaaGreatHeadOps
namespace Go.Proofs.YtgeengkdgdjcjaaGreat
set_option linter.unusedSimpArgs false
open Go.RowKit
set_option linter.unusedVariables false
theorem two_new (w : World) (x2 x3 : Array Value) (t2 t3 : TypeId) :
 Blk ((w.alloc (.cells x2 t2)).alloc (.cells x3 t3)) w.heap.size t2 x2 ∧ Blk ((w.alloc (.cells x2 t2)).alloc (.cells x3 t3)) (w.heap.size + 1) t3 x3 ∧ Ext w ((w.alloc (.cells x2 t2)).alloc (.cells x3 t3)) := by
 have h3 : (w.alloc (.cells x2 t2)).heap.size = w.heap.size + 1 := by simp
 refine ⟨(Blk.new w t2 x2).alloc _, ?_, Ext.new (Ext.new (Below.refl w.heap.size w) _) _⟩
 have := Blk.new (w.alloc (.cells x2 t2)) t3 x3; rwa [h3] at this
def sone (s : ByteArray) : List Value := [.string s]
theorem sone_length (s : ByteArray) : (sone s).length = 1 := rfl
def Keep (p : Nat → Prop) (w w' : World) : Prop := w.heap.size ≤ w'.heap.size ∧ ∀ b, p b → b < w.heap.size → w'.heap[b]? = w.heap[b]?
theorem Ext.keep {w w' : World} (he : Ext w w') (p : Nat → Prop) : Keep p w w' := ⟨he.size, fun b _ h => he.block b h⟩
theorem size_setCells (g : Nat) : ∀ (vs : List Value) (o : Nat) (w : World), (w.setCells g o vs).heap.size = w.heap.size
 | [], _, _ => rfl
 | v :: vs, o, w => by rw [World.setCells, size_setCells g vs]; simp [World.setCell]
theorem heap_setCells {g b : Nat} (hb : b ≠ g) : ∀ (vs : List Value) (o : Nat) (w : World), (w.setCells g o vs).heap[b]? = w.heap[b]?
 | [], _, _ => rfl
 | v :: vs, o, w => by rw [World.setCells, heap_setCells hb vs]; exact Below.heap_setCell _ ⟨g, o, none⟩ _ _ hb
theorem Keep.setCells {p : Nat → Prop} {g : Nat} (hg : ¬ p g) (vs : List Value) (o : Nat) (w : World) : Keep p w (w.setCells g o vs) :=
 ⟨Nat.le_of_eq (size_setCells g vs o w).symm, fun b hb _ => heap_setCells (fun e => hg (by rw [← e]; exact hb)) vs o w⟩
def AnyB : Nat → Prop := fun _ => True
def FromB (B : Nat) : Nat → Prop := fun b => B ≤ b
structure SlF {α : Type} (p : Nat → Prop) (f : α → List Value) (size : Nat) (w : World) (A : Option Addr) (l : List α) (c : Nat) : Prop where
 le : l.length ≤ c
 cap : c ≤ maxLen
 reads : ReadsL w w.heap.size f size A l
 low : 0 < l.length → ∀ a, A = some a → p a.block
section
variable {α : Type} {p q : Nat → Prop} {f : α → List Value} {size : Nat} {w w' : World} {A : Option Addr} {l : List α} {c : Nat}
theorem SlF.keep (h : SlF p f size w A l c) (he : Keep p w w') : SlF p f size w' A l c := by
 obtain ⟨h1, h2, h3, h4⟩ := h
 refine ⟨h1, h2, ⟨h3.1, fun hn => ?_⟩, h4⟩
 obtain ⟨b, off, e, hb, hc⟩ := h3.2 hn
 exact ⟨b, off, e, Nat.lt_of_lt_of_le hb he.1, fun j u hu => (World.cell?_of_block (w := w) (he.2 b (h4 hn _ e) hb)).trans (hc j u hu)⟩
theorem SlF.ext (h : SlF p f size w A l c) (he : Ext w w') : SlF p f size w' A l c := h.keep (he.keep p)
theorem SlF.drew (h : SlF p f size w A l c) : SlF p f size w.drew A l c := ⟨h.le, h.cap, h.reads, h.low⟩
theorem SlF.len (h : SlF p f size w A l c) : l.length ≤ maxLen := Nat.le_trans h.le h.cap
theorem SlF.mono (h : SlF p f size w A l c) (hp : ∀ b, p b → q b) : SlF q f size w A l c := ⟨h.le, h.cap, h.reads, fun h0 a e => hp _ (h.low h0 a e)⟩
theorem SlF.any (h : SlF p f size w A l c) : SlF AnyB f size w A l c := h.mono fun _ _ => trivial
theorem SlF.nil (p : Nat → Prop) (f : α → List Value) (size : Nat) (w : World) : SlF p f size w none [] 0 := ⟨Nat.le_refl _, Nat.zero_le _, Reads.nil_, fun h => absurd h (Nat.lt_irrefl 0)⟩
theorem SlF.new {g : Nat} {t : TypeId} (hf : ∀ a, (f a).length = size) (h : Blk w g t (l.flatMap f).toArray) (hl : l.length ≤ 1048576) (hp : p g) : SlF p f size w (some ⟨g, 0, none⟩) l l.length :=
 ⟨Nat.le_refl _, by unfold maxLen; omega, h.readsL hf, fun _ a e => by cases e; exact hp⟩
end
abbrev Rep (α : Type) := (Nat → Prop) → World → List Value → α → Prop
structure Steady {α : Type} (R : Rep α) : Prop where
 keep : ∀ {p : Nat → Prop} {w w' : World} {cs : List Value} {a : α}, R p w cs a → Keep p w w' → R p w' cs a
 mono : ∀ {p q : Nat → Prop} {w : World} {cs : List Value} {a : α}, R p w cs a → (∀ b, p b → q b) → R q w cs a
structure SlN {α : Type} (p : Nat → Prop) (R : Rep α) (size : Nat) (w : World) (A : Option Addr) (l : List α) (c : Nat) : Prop where
 le : l.length ≤ c
 cap : c ≤ maxLen
 reads : ∃ css : List (List Value), css.length = l.length ∧ (∀ cs ∈ css, cs.length = size) ∧ (∀ (i : Nat) (cs : List Value) (a : α), css[i]? = some cs → l[i]? = some a → R p w cs a) ∧ ReadsL w w.heap.size id size A css
 low : 0 < l.length → ∀ a, A = some a → p a.block
theorem flat_id_at {size : Nat} : ∀ (css : List (List Value)), (∀ cs ∈ css, cs.length = size) → ∀ (k j : Nat) (cs : List Value), css[k]? = some cs → j < size → (css.flatMap id)[k * size + j]? = cs[j]?
 | [], _, k, j, a, h, _ => by simp at h
 | b :: l, hs, 0, j, a, h, hj => by
   obtain rfl : b = a := by simpa using h
   simp only [Nat.zero_mul, Nat.zero_add, List.flatMap_cons]
   rw [List.getElem?_append_left (by rw [id, hs b (by simp)]; exact hj)]
   rfl
 | b :: l, hs, k + 1, j, a, h, hj => by
   rw [List.flatMap_cons, Nat.succ_mul, List.getElem?_append_right (by rw [id, hs b (by simp)]; omega), id, hs b (by simp), show k * size + size + j - size = k * size + j by omega]
   exact flat_id_at l (fun cs h => hs cs (by simp [h])) k j a (by simpa using h) hj
theorem flat_id_len {size : Nat} : ∀ (css : List (List Value)), (∀ cs ∈ css, cs.length = size) → (css.flatMap id).length = css.length * size
 | [], _ => by simp
 | b :: l, hs => by rw [List.flatMap_cons, List.length_append, id, hs b (by simp), flat_id_len l (fun cs h => hs cs (by simp [h])), List.length_cons, Nat.succ_mul]; omega
section
variable {α : Type} {p q : Nat → Prop} {R : Rep α} {size : Nat} {w w' : World} {A : Option Addr} {l : List α} {c : Nat}
theorem SlN.keep (hR : Steady R) (h : SlN p R size w A l c) (he : Keep p w w') : SlN p R size w' A l c := by
 obtain ⟨h1, h2, ⟨css, h3, h4, h5, h6⟩, h7⟩ := h
 refine ⟨h1, h2, ⟨css, h3, h4, fun i cs a x y => hR.keep (h5 i cs a x y) he, h6.1, fun hn => ?_⟩, h7⟩
 obtain ⟨b, off, e, hb, hc⟩ := h6.2 hn
 exact ⟨b, off, e, Nat.lt_of_lt_of_le hb he.1, fun j u hu => (World.cell?_of_block (w := w) (he.2 b (h7 (by omega) _ e) hb)).trans (hc j u hu)⟩
theorem SlN.ext (hR : Steady R) (h : SlN p R size w A l c) (he : Ext w w') : SlN p R size w' A l c := h.keep hR (he.keep p)
theorem SlN.len (h : SlN p R size w A l c) : l.length ≤ maxLen := Nat.le_trans h.le h.cap
theorem SlN.mono (hR : Steady R) (h : SlN p R size w A l c) (hp : ∀ b, p b → q b) : SlN q R size w A l c := by
 obtain ⟨h1, h2, ⟨css, h3, h4, h5, h6⟩, h7⟩ := h
 exact ⟨h1, h2, ⟨css, h3, h4, fun i cs a x y => hR.mono (h5 i cs a x y) hp, h6⟩, fun h0 a e => hp _ (h7 h0 a e)⟩
theorem SlN.any (hR : Steady R) (h : SlN p R size w A l c) : SlN AnyB R size w A l c := h.mono hR fun _ _ => trivial
theorem SlN.nil (p : Nat → Prop) (R : Rep α) (size : Nat) (w : World) : SlN p R size w none [] 0 := ⟨Nat.le_refl _, Nat.zero_le _, ⟨[], rfl, by simp, by simp, Reads.nil_⟩, fun h => absurd h (Nat.lt_irrefl 0)⟩
theorem SlN.at_ (h : SlN p R size w A l c) {k : Nat} (hk : k < l.length) : ∃ b off cs, A = some ⟨b, off, none⟩ ∧ b < w.heap.size ∧ cs.length = size ∧ R p w cs l[k] ∧ ∀ j u, j < size → cs[j]? = some u → w.cell? ⟨b, off + k * size + j, none⟩ = some u := by
 obtain ⟨h1, h2, ⟨css, h3, h4, h5, h6⟩, h7⟩ := h
 have hkc : css[k]? = some (css[k]'(by omega)) := List.getElem?_eq_getElem (by omega)
 obtain ⟨b, off, e, hb, hc⟩ := Reads.at_ h6 (k := k) (by omega)
 exact ⟨b, off, _, e, hb, h4 _ (List.getElem_mem (by omega)), h5 k _ _ hkc (List.getElem?_eq_getElem hk), fun j u hj hu => hc j u (by rw [flat_id_at css h4 k j _ hkc hj]; exact hu)⟩
end
def FilledN {α : Type} (R : Rep α) (size : Nat) (t : TypeId) (l : List α) (g : Nat) (Z : Array Value) (k : Nat) (wr : World) : Prop :=
 ∃ css : List (List Value), css.length = k ∧ (∀ cs ∈ css, cs.length = size) ∧ (∀ (i : Nat) (cs : List Value) (a : α), css[i]? = some cs → l[i]? = some a → R (FromB (g + 1)) wr cs a) ∧ Blk wr g t (css.flatMap id ++ Z.toList.drop (k * size)).toArray
section
variable {α : Type} {R : Rep α} {size : Nat} {t : TypeId} {l : List α} {g : Nat} {Z : Array Value} {k : Nat} {wr w1 : World}
theorem FilledN.ext (hR : Steady R) (h : FilledN R size t l g Z k wr) (he : Ext wr w1) : FilledN R size t l g Z k w1 := by
 obtain ⟨css, h1, h2, h3, h4⟩ := h
 exact ⟨css, h1, h2, fun i cs a x y => hR.keep (h3 i cs a x y) (he.keep _), h4.ext he⟩
theorem FilledN.frozen (h : FilledN R size t l g Z k wr) (i : Nat) : wr.frozen? ⟨g, i, none⟩ = false := by
 obtain ⟨css, h1, h2, h3, h4⟩ := h
 exact h4.frozen i
theorem FilledN.lt (h : FilledN R size t l g Z k wr) : g < wr.heap.size := by
 obtain ⟨css, h1, h2, h3, h4⟩ := h
 exact h4.lt
theorem FilledN.there (hZ : Z.size = l.length * size) (h : FilledN R size t l g Z k wr) (hk : k < l.length) : wr.there g (k * size) size := by
 obtain ⟨css, h1, h2, h3, h4⟩ := h
 refine Blk.there h4 _ _ ?_
 have e2 : (k + 1) * size ≤ l.length * size := Nat.mul_le_mul_right _ hk
 rw [Nat.succ_mul] at e2
 simp only [List.size_toArray, List.length_append, flat_id_len css h2, List.length_drop, Array.length_toList, hZ, h1]
 omega
theorem FilledN.step (hS : Steady R) (hZ : Z.size = l.length * size) (h : FilledN R size t l g Z k wr) (hk : k < l.length) {cs : List Value} (hcs : cs.length = size) (hc : R (FromB (g + 1)) wr cs l[k]) : FilledN R size t l g Z (k + 1) (wr.setCells g (k * size) cs) := by
 obtain ⟨css, h1, h2, h3, h4⟩ := h
 have hK : Keep (FromB (g + 1)) wr (wr.setCells g (k * size) cs) := Keep.setCells (by unfold FromB; omega) _ _ _
 have e2 : (k + 1) * size ≤ l.length * size := Nat.mul_le_mul_right _ hk
 have hl1 : (css.flatMap id).length = k * size := by rw [flat_id_len css h2, h1]
 have hb := Blk.setCells cs (k * size) _ _ h4 (by rw [Nat.succ_mul] at e2; simp only [List.size_toArray, List.length_append, hl1, List.length_drop, Array.length_toList, hZ, hcs]; omega)
 refine ⟨css ++ [cs], by simp [h1], ?_, ?_, ?_⟩
 · intro x hx
   rcases List.mem_append.1 hx with hx | hx
   · exact h2 x hx
   · obtain rfl : x = cs := by simpa using hx
     exact hcs
 · intro i x a hx ha
   rcases Nat.lt_or_ge i k with hi | hi
   · rw [List.getElem?_append_left (by omega)] at hx
     exact hS.keep (h3 i x a hx ha) hK
   · rw [List.getElem?_append_right (by omega)] at hx
     have : i - css.length = 0 := by
      have := (List.getElem?_eq_some_iff.1 hx).1
      simp at this; omega
     obtain rfl : i = k := by omega
     rw [this] at hx
     obtain rfl : cs = x := by simpa using hx
     rw [List.getElem?_eq_getElem hk] at ha
     obtain rfl : l[i] = a := by simpa using ha
     exact hS.keep hc hK
 · rw [show (css ++ [cs]).flatMap id = css.flatMap id ++ cs by simp]
   generalize css.flatMap id = X at hl1 hb
   have q1 : (X ++ Z.toList.drop (k * size)).take (k * size) = X := by rw [List.take_append_of_le_length (by omega), List.take_of_length_le (by omega)]
   have q2 : (X ++ Z.toList.drop (k * size)).drop (k * size + size) = Z.toList.drop ((k + 1) * size) := by
    rw [List.drop_append, List.drop_eq_nil_of_le (by omega), List.nil_append, List.drop_drop, hl1, show k * size + (k * size + size - k * size) = (k + 1) * size by rw [Nat.succ_mul]; omega]
   simp only [hcs, q1, q2] at hb
   exact hb
theorem FilledN.done (hS : Steady R) (hZ : Z.size = l.length * size) (h : FilledN R size t l g Z k wr) (hk : k = l.length) (hl : l.length ≤ 1048576) {p : Nat → Prop} (hp : ∀ b, g ≤ b → p b) : SlN p R size wr (some ⟨g, 0, none⟩) l l.length := by
 subst hk
 obtain ⟨css, h1, h2, h3, h4⟩ := h
 rw [List.drop_eq_nil_of_le (by rw [Array.length_toList, hZ]; exact Nat.le_refl _), List.append_nil] at h4
 exact ⟨Nat.le_refl _, by unfold maxLen; omega, ⟨css, h1, h2, fun i cs a x y => hS.mono (h3 i cs a x y) (fun b hb => hp b (by unfold FromB at hb; omega)), Blk.reads h4 css.length size (flat_id_len css h2)⟩, fun _ a e => by cases e; exact hp _ (Nat.le_refl _)⟩
theorem FilledN.start (R : Rep α) (size : Nat) (t : TypeId) (l : List α) (w : World) (Z : Array Value) : FilledN R size t l w.heap.size Z 0 (w.alloc (.cells Z t)) :=
 ⟨[], rfl, by simp, by simp, by simpa using Blk.new w t Z⟩
end
theorem Blk.range {w : World} {g t : Nat} {cs : List Value} (h : Blk w g t cs.toArray) : w.rangeAt g 0 cs := fun j v hv => by rw [Nat.zero_add, h.cell]; simpa using hv

def half (n : Nat) : Nat := 2 ^ Nat.log2 (n - 1)
theorem half_pos (n : Nat) : 0 < half n := Nat.two_pow_pos _
theorem half_lt {n : Nat} (h : 2 ≤ n) : half n < n := by
 have := Nat.log2_self_le (n := n - 1) (by omega)
 unfold half; omega
theorem half_eq {n k : Nat} (h1 : 2 ^ k < n) (h2 : n ≤ 2 ^ (k + 1)) : half n = 2 ^ k := by
 have h0 : 0 < 2 ^ k := Nat.two_pow_pos _
 have : Nat.log2 (n - 1) = k := (Nat.log2_eq_iff (by omega)).2 ⟨by omega, by omega⟩
 rw [half, this]
def hashes (w : Int) (l : List ByteArray) : Bool := l.all fun s => (s.size : Int) == w
def nodeT (w : Int) (t : ByteArray) : ByteArray := digest w 1 t
end Go.Proofs.YtgeengkdgdjcjaaGreat
namespace Go.Proofs.YtgeengkdgdjcjaaGreat
set_option linter.unusedSimpArgs false
set_option linter.unusedVariables false
section
variable {α : Type} (nd : α → α → α) (e : α)
def mrF : Nat → List α → α
 | 0, _ => e
 | f + 1, l => match l with
   | [] => e
   | [x] => x
   | x :: y :: r => nd (mrF f ((x :: y :: r).take (half (x :: y :: r).length))) (mrF f ((x :: y :: r).drop (half (x :: y :: r).length)))
def mroot (l : List α) : α := mrF nd e l.length l
theorem mrF_fuel : ∀ (f g : Nat) (l : List α), l.length ≤ f → l.length ≤ g → mrF nd e f l = mrF nd e g l
 | 0, 0, _, _, _ => rfl
 | 0, g + 1, l, h, _ => by
   obtain rfl : l = [] := List.eq_nil_of_length_eq_zero (by omega)
   rfl
 | f + 1, 0, l, _, h => by
   obtain rfl : l = [] := List.eq_nil_of_length_eq_zero (by omega)
   rfl
 | f + 1, g + 1, [], _, _ => rfl
 | f + 1, g + 1, [x], _, _ => rfl
 | f + 1, g + 1, x :: y :: r, hf, hg => by
   have l1 := half_lt (n := (x :: y :: r).length) (by simp)
   have l2 := half_pos (x :: y :: r).length
   simp only [mrF]
   rw [mrF_fuel f g _ (by rw [List.length_take]; omega) (by rw [List.length_take]; omega), mrF_fuel f g _ (by rw [List.length_drop]; omega) (by rw [List.length_drop]; omega)]
theorem mroot_nil : mroot nd e [] = e := rfl
theorem mroot_one (x : α) : mroot nd e [x] = x := rfl
theorem mroot_more {l : List α} (h : 2 ≤ l.length) : mroot nd e l = nd (mroot nd e (l.take (half l.length))) (mroot nd e (l.drop (half l.length))) := by
 have l1 := half_lt h
 have l2 := half_pos l.length
 match l, h, l1, l2 with
 | x :: y :: r, _, l1, l2 =>
   unfold mroot
   obtain ⟨f, hf⟩ : ∃ f, (x :: y :: r).length = f + 1 := ⟨r.length + 1, by simp⟩
   rw [hf, mrF, ← hf]
   rw [mrF_fuel nd e f ((x :: y :: r).take (half (x :: y :: r).length)).length _ (by rw [List.length_take]; omega) (Nat.le_refl _), mrF_fuel nd e f ((x :: y :: r).drop (half (x :: y :: r).length)).length _ (by rw [List.length_drop]; omega) (Nat.le_refl _)]
theorem mroot_join {y z : List α} {k : Nat} (hy : y.length = 2 ^ k) (h0 : 0 < z.length) (hz : z.length ≤ 2 ^ k) : mroot nd e (y ++ z) = nd (mroot nd e y) (mroot nd e z) := by
 have h1 : 0 < 2 ^ k := Nat.two_pow_pos _
 have hl : (y ++ z).length = 2 ^ k + z.length := by rw [List.length_append, hy]
 have hh : half (y ++ z).length = 2 ^ k := half_eq (by omega) (by rw [hl, Nat.pow_succ]; omega)
 rw [mroot_more nd e (by omega), hh, ← hy, List.take_left, List.drop_left]
def carry : Nat → Nat → List α → α → List α
 | 0, _, s, v => v :: s
 | _ + 1, _, [], v => [v]
 | f + 1, n, p :: r, v => if n % 2 = 1 then carry f (n / 2) r (nd p v) else v :: p :: r
theorem carry_even : ∀ (f n : Nat) (s : List α) (v : α), n % 2 = 0 → carry nd f n s v = v :: s
 | 0, _, _, _, _ => rfl
 | f + 1, n, [], v, _ => rfl
 | f + 1, n, p :: r, v, h => by rw [carry, if_neg (by omega)]
theorem carry_fuel : ∀ (f g n : Nat) (s : List α) (v : α), n ≤ f → n ≤ g → carry nd f n s v = carry nd g n s v
 | 0, g, n, s, v, h, _ => by rw [carry_even nd 0 n s v (by omega), carry_even nd g n s v (by omega)]
 | f + 1, 0, n, s, v, _, h => by rw [carry_even nd 0 n s v (by omega), carry_even nd (f + 1) n s v (by omega)]
 | f + 1, g + 1, n, [], v, _, _ => rfl
 | f + 1, g + 1, n, p :: r, v, hf, hg => by
   rw [carry, carry]
   by_cases h : n % 2 = 1
   · rw [if_pos h, if_pos h]
     exact carry_fuel f g (n / 2) r (nd p v) (by omega) (by omega)
   · rw [if_neg h, if_neg h]
def carryN (n : Nat) (s : List α) (v : α) : List α := carry nd n n s v
theorem carryN_even {n : Nat} {s : List α} {v : α} (h : n % 2 = 0) : carryN nd n s v = v :: s := by
 exact carry_even nd n n s v h
theorem carryN_odd {n : Nat} {s : List α} {p v : α} (h : n % 2 = 1) : carryN nd n (p :: s) v = carryN nd (n / 2) s (nd p v) := by
 unfold carryN
 cases n with
 | zero => omega
 | succ n =>
   rw [carry, if_pos h]
   exact carry_fuel nd n ((n + 1) / 2) _ s _ (by omega) (Nat.le_refl _)
def peaksOf (l : List α) : List α := (l.foldl (fun (a : Nat × List α) x => (a.1 + 1, carryN nd a.1 a.2 x)) (0, [])).2
inductive Stk : Nat → Nat → List α → List α → Prop
 | nil (k : Nat) : Stk 0 k [] []
 | even {n k : Nat} {l s : List α} : Stk (n + 1) (k + 1) l s → Stk (2 * (n + 1)) k l s
 | odd {n k : Nat} {l y s : List α} : Stk n (k + 1) l s → y.length = 2 ^ k → Stk (2 * n + 1) k (l ++ y) (mroot nd e y :: s)
theorem Stk.len {n k : Nat} {l s : List α} (h : Stk nd e n k l s) : l.length = n * 2 ^ k := by
 induction h with
 | nil => simp
 | even _ ih => rw [ih, Nat.pow_succ, ← Nat.mul_assoc, Nat.mul_comm 2, Nat.mul_assoc, Nat.mul_assoc, Nat.mul_comm 2]
 | @odd n k l y s _ hy ih =>
   rw [List.length_append, ih, hy, Nat.pow_succ, Nat.add_mul, Nat.one_mul, Nat.mul_comm 2 n, Nat.mul_assoc, Nat.mul_comm 2]
theorem Stk.step {n k : Nat} {l s : List α} (h : Stk nd e n k l s) : ∀ x : List α, x.length = 2 ^ k → Stk nd e (n + 1) k (l ++ x) (carryN nd n s (mroot nd e x)) := by
 induction h with
 | nil k =>
   intro x hx
   rw [carryN_even nd rfl]
   exact Stk.odd (Stk.nil (k + 1)) hx
 | @even n k l s h _ =>
   intro x hx
   rw [carryN_even nd (by omega)]
   exact Stk.odd h hx
 | @odd n k l y s h hy ih =>
   intro x hx
   have h0 : 0 < 2 ^ k := Nat.two_pow_pos _
   rw [carryN_odd nd (by omega), show (2 * n + 1) / 2 = n by omega, ← mroot_join nd e hy (by omega) (by omega), List.append_assoc, show 2 * n + 1 + 1 = 2 * (n + 1) by omega]
   exact Stk.even (ih (y ++ x) (by rw [List.length_append, hy, hx, Nat.pow_succ]; omega))
theorem Stk.fold {n k : Nat} {l s : List α} (h : Stk nd e n k l s) : ∀ z : List α, 0 < z.length → z.length ≤ 2 ^ k → s.foldl (fun r p => nd p r) (mroot nd e z) = mroot nd e (l ++ z) := by
 induction h with
 | nil k => intro z _ _; simp
 | @even n k l s h ih =>
   intro z h0 hz
   exact ih z h0 (by rw [Nat.pow_succ]; omega)
 | @odd n k l y s h hy ih =>
   intro z h0 hz
   rw [List.foldl_cons, ← mroot_join nd e hy h0 hz, List.append_assoc]
   exact ih (y ++ z) (by rw [List.length_append]; omega) (by rw [List.length_append, hy, Nat.pow_succ]; omega)
def rootS : List α → α
 | [] => e
 | t :: s => s.foldl (fun r p => nd p r) t
theorem Stk.root {n k : Nat} {l s : List α} (h : Stk nd e n k l s) : rootS nd e s = mroot nd e l := by
 induction h with
 | nil => rfl
 | even _ ih => exact ih
 | @odd n k l y s h hy _ => exact h.fold nd e y (by rw [hy]; exact Nat.two_pow_pos _) (by rw [hy, Nat.pow_succ]; omega)
theorem peaks_fold : ∀ (r : List α) (l s : List α), Stk nd e l.length 0 l s → Stk nd e (l.length + r.length) 0 (l ++ r) (r.foldl (fun (a : Nat × List α) x => (a.1 + 1, carryN nd a.1 a.2 x)) (l.length, s)).2
 | [], l, s, h => by simpa using h
 | x :: r, l, s, h => by
   have h1 := h.step nd e [x] rfl
   rw [mroot_one] at h1
   have h2 := peaks_fold r (l ++ [x]) (carryN nd l.length s x) (by rw [List.length_append]; exact h1)
   simp only [List.length_append, List.length_cons, List.length_nil, List.append_assoc, List.singleton_append, List.foldl_cons] at h2 ⊢
   rw [show l.length + (r.length + 1) = l.length + (0 + 1) + r.length by omega]
   exact h2
theorem stk_peaks (l : List α) : Stk nd e l.length 0 l (peaksOf nd l) := by
 have := peaks_fold nd e l [] [] (Stk.nil 0)
 simpa [peaksOf] using this
theorem peaks_root (l : List α) : rootS nd e (peaksOf nd l) = mroot nd e l := (stk_peaks nd e l).root
def growL (n : Nat) (s : List α) (r : List α) : List α := (r.foldl (fun (a : Nat × List α) x => (a.1 + 1, carryN nd a.1 a.2 x)) (n, s)).2
theorem growL_nil (n : Nat) (s : List α) : growL nd n s [] = s := rfl
theorem growL_cons (n : Nat) (s : List α) (x : α) (r : List α) : growL nd n s (x :: r) = growL nd (n + 1) (carryN nd n s x) r := rfl
theorem fold_fst : ∀ (r : List α) (a : Nat × List α), (r.foldl (fun (a : Nat × List α) x => (a.1 + 1, carryN nd a.1 a.2 x)) a).1 = a.1 + r.length
 | [], a => rfl
 | x :: r, a => by rw [List.foldl_cons, fold_fst r]; simp only [List.length_cons]; omega
theorem growL_append (n : Nat) (s r t : List α) : growL nd n s (r ++ t) = growL nd (n + r.length) (growL nd n s r) t := by
 unfold growL
 rw [List.foldl_append, ← fold_fst nd r (n, s)]
theorem peaks_append (l r : List α) : peaksOf nd (l ++ r) = growL nd l.length (peaksOf nd l) r := by
 have := growL_append nd 0 [] l r
 rw [Nat.zero_add] at this
 exact this
end
def pcF : Nat → Nat → Nat
 | 0, _ => 0
 | f + 1, n => n % 2 + pcF f (n / 2)
theorem pcF_fuel : ∀ (f g n : Nat), n ≤ f → n ≤ g → pcF f n = pcF g n
 | 0, 0, _, _, _ => rfl
 | 0, g + 1, n, h, _ => by
   obtain rfl : n = 0 := by omega
   rw [pcF, pcF, ← pcF_fuel 0 g (0 / 2) (by omega) (by omega)]; rfl
 | f + 1, 0, n, _, h => by
   obtain rfl : n = 0 := by omega
   rw [pcF, pcF, pcF_fuel f 0 (0 / 2) (by omega) (by omega)]; rfl
 | f + 1, g + 1, n, hf, hg => by rw [pcF, pcF, pcF_fuel f g (n / 2) (by omega) (by omega)]
def pc (n : Nat) : Nat := pcF n n
theorem pc_step (n : Nat) : pc n = n % 2 + pc (n / 2) := by
 unfold pc
 cases n with
 | zero => rfl
 | succ n => rw [pcF, pcF_fuel n ((n + 1) / 2) _ (by omega) (Nat.le_refl _)]
theorem pc_le (n : Nat) : pc n ≤ n := by
 induction n using Nat.strongRecOn with
 | _ n ih =>
   rcases Nat.eq_zero_or_pos n with h | h
   · subst h; exact Nat.le_refl _
   · rw [pc_step]; have := ih (n / 2) (by omega); omega
theorem pc_next (n : Nat) : pc (n + 1) ≤ pc n + 1 := by
 induction n using Nat.strongRecOn with
 | _ n ih =>
   rw [pc_step (n + 1), pc_step n]
   rcases Nat.mod_two_eq_zero_or_one n with h | h
   · rw [show (n + 1) / 2 = n / 2 by omega]; omega
   · have := ih (n / 2) (by omega)
     rw [show (n + 1) / 2 = n / 2 + 1 by omega]; omega
theorem pc_even {n : Nat} (h : n % 2 = 0) : pc (n + 1) = pc n + 1 := by
 rw [pc_step (n + 1), pc_step n, show (n + 1) / 2 = n / 2 by omega]; omega
theorem pc_odd {n : Nat} (h : n % 2 = 1) : pc (n + 1) = pc (n / 2 + 1) ∧ pc n = pc (n / 2) + 1 := by
 rw [pc_step (n + 1), pc_step n, show (n + 1) / 2 = n / 2 + 1 by omega]; omega
theorem carry_len {α : Type} (nd : α → α → α) : ∀ (n : Nat) (s : List α) (v : α), s.length = pc n → (carryN nd n s v).length = pc (n + 1) := by
 intro n
 induction n using Nat.strongRecOn with
 | _ n ih =>
   intro s v hs
   rcases Nat.mod_two_eq_zero_or_one n with h | h
   · rw [carryN_even nd h, pc_even h, List.length_cons, hs]
   · obtain ⟨h1, h2⟩ := pc_odd h
     match s, hs with
     | [], hs => rw [h2] at hs; simp at hs
     | p :: r, hs =>
       rw [carryN_odd nd h, h1]
       exact ih (n / 2) (by omega) r _ (by rw [h2] at hs; simpa using hs)
theorem growL_len {α : Type} (nd : α → α → α) : ∀ (r : List α) (n : Nat) (s : List α), s.length = pc n → (growL nd n s r).length = pc (n + r.length)
 | [], n, s, h => h
 | x :: r, n, s, h => by
   rw [growL_cons, growL_len nd r _ _ (carry_len nd n s x h), List.length_cons]
   congr 1; omega
theorem peaks_len {α : Type} (nd : α → α → α) (l : List α) : (peaksOf nd l).length = pc l.length := by
 have := growL_len nd l 0 [] rfl
 rw [Nat.zero_add] at this
 exact this
end Go.Proofs.YtgeengkdgdjcjaaGreat
