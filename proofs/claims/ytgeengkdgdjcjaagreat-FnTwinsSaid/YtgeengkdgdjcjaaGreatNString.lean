/-
  HeadOps; Nest; NString: No condition.
-/
import Derived.Test.YtgeengkdgdjcjaaGreatEqs
import Derived.Test.YtgeengkdgdjcjaaGreatOwn
import Derived.Test.YtgeengkdgdjcjaaGreatTexts
import Derived.StillTailTactics
namespace Go.Proofs.YtgeengkdgdjcjaaGreat
set_option maxHeartbeats 1000000
set_option linter.unusedSimpArgs false
open Go.RowKit
set_option linter.unusedVariables false
def emptyR (n : Int) : ByteArray := digest n 5 ⟨#[]⟩
theorem emptyOk (n : Int) : digestOk n 5 ⟨#[]⟩ = inR n 1 32 := by
 have h1 : inR 5 0 255 = true := rfl
 have h2 : decide ((⟨#[]⟩ : ByteArray).size ≤ 4000) = true := rfl
 simp only [digestOk, h1, h2, Bool.and_true]
theorem specEmptyRoot_any (n : Int) (w : World) : Calls Tryz.prog 158 #[.int .i64 n] w fun e w' => e = .returned (.tuple #[.string (emptyR n), .bool (inR n 1 32)]) ∧ Ext w w' := by
 go_enter Tryz.func158, Tryz.ntmps158
 go_wp2_with fail
 refine (specDigest_any n 5 ⟨#[]⟩ _ (by decide)).mono ?_
 rintro e w1 ⟨rfl, h1⟩
 rw [emptyOk]
 go_wp2_with fail
 go_ret2
 exact ⟨rfl, h1⟩
theorem EmptyRoot_any (n : Int) (w : World) : Calls Tryz.prog 140 #[.int .i64 n] w fun e w' => e = .returned (.tuple #[.string (emptyR n), .bool (inR n 1 32)]) ∧ Ext w w' := by
 go_enter Tryz.func140, Tryz.ntmps140
 go_wp2_with fail
 refine (Digest_any n 5 ⟨#[]⟩ _ (by decide)).mono ?_
 rintro e w1 ⟨rfl, h1⟩
 rw [emptyOk]
 go_wp2_with fail
 go_ret2
 exact ⟨rfl, h1⟩
theorem emptyRoot_any (n : Int) (w : World) : Calls Tryz.prog 80 #[.int .i64 n] w fun e w' => e = .returned (.string (emptyR n)) ∧ Ext w w' := by
 go_enter Tryz.func80, Tryz.ntmps80
 go_wp2_with fail
 refine (EmptyRoot_any n _).mono ?_
 rintro e w1 ⟨rfl, h1⟩
 go_wp2_with fail
 go_ret
 exact ⟨rfl, h1⟩
theorem isSize_any (n : Int) (w : World) : Calls Tryz.prog 215 #[.int .i64 n] w fun e w' => e = .returned (.bool (inR n 0 512)) ∧ w = w' := by
 go_enter Tryz.func215, Tryz.ntmps215
 go_wp2_with (go_at_call 117; refine (inRange_any _ _ _ _).mono ?_; rintro e w' ⟨rfl, rfl⟩)
 go_ret
 exact ⟨rfl, rfl⟩
def rootB (n s : Int) (r : ByteArray) : Bool := inR s 0 512 && ((r.size : Int) == n) && (decide (0 < s) || (r.toList == (emptyR n).toList))
def headOk (n : Int) (h : HeadD) : Bool := inR n 1 32 && inR h.number 0 399 && rootB n h.size h.root && rootB n h.taken h.takenRoot
theorem rootOk_any (n s : Int) (r : ByteArray) (w : World) : Calls Tryz.prog 141 #[.int .i64 n, .int .i64 s, .string r] w fun e w' => e = .returned (.bool (rootB n s r)) ∧ Ext w w' := by
 cases b1 : inR s 0 512
 · have E := hU (show rootB n s r = false by simp [rootB, b1])
   go_enter Tryz.func141, Tryz.ntmps141
   go_wp2_with (go_at_call 215; refine (isSize_any _ _).mono ?_; rintro e w' ⟨rfl, rfl⟩)
   go_ret
   exact ⟨ret_bool E.out.symm, Below.refl _ _⟩
 cases b2 : ((r.size : Int) == n)
 · have E := hU (show rootB n s r = false by simp [rootB, b2])
   have b2' : ((r.size : Int) != n) = true := by rw [bne, b2]; rfl
   go_enter Tryz.func141, Tryz.ntmps141
   go_wp2_with (go_at_call 215; refine (isSize_any _ _).mono ?_; rintro e w' ⟨rfl, rfl⟩)
   go_ret
   exact ⟨ret_bool E.out.symm, Below.refl _ _⟩
 have b2' : ((r.size : Int) != n) = false := by rw [bne, b2]; rfl
 by_cases b3 : 0 < s
 · have E := hU (show rootB n s r = true by simp [rootB, b1, b2, b3])
   have b3' : decide (0 < s) = true := decide_eq_true b3
   go_enter Tryz.func141, Tryz.ntmps141
   go_wp2_with (go_at_call 215; refine (isSize_any _ _).mono ?_; rintro e w' ⟨rfl, rfl⟩)
   go_ret
   exact ⟨ret_bool E.out.symm, Below.refl _ _⟩
 have b3' : decide (0 < s) = false := decide_eq_false b3
 have E := hU (show rootB n s r = (r.toList == (emptyR n).toList) by simp only [rootB, b1, b2, b3', Bool.true_and, Bool.false_or])
 go_enter Tryz.func141, Tryz.ntmps141
 go_wp2_with (first | (go_at_call 215; refine (isSize_any _ _).mono ?_; rintro e w' ⟨rfl, rfl⟩))
 refine (emptyRoot_any n _).mono ?_
 rintro e w1 ⟨rfl, h1⟩
 go_wp2_with fail
 go_ret
 exact ⟨ret_bool E.out.symm, h1⟩
theorem implHeadOk_any (n : Int) (h : HeadD) (w : World) : Calls Tryz.prog 81 #[.int .i64 n, .agg #[.int .i64 h.number, .int .i64 h.size, .string h.root, .int .i64 h.taken, .string h.takenRoot]] w fun e w' => e = .returned (.bool (headOk n h)) ∧ Ext w w' := by
 have K0 := Blk.new w 33 #[.int .i64 h.number, .int .i64 h.size, .string h.root, .int .i64 h.taken, .string h.takenRoot]
 have he := Ext.new (Below.refl w.heap.size w) (.cells #[.int .i64 h.number, .int .i64 h.size, .string h.root, .int .i64 h.taken, .string h.takenRoot] 33)
 obtain ⟨r0, m0⟩ := K0.rules
 cases b1 : inR n 1 32
 · have E := hU (show headOk n h = false by simp [headOk, b1])
   go_enter Tryz.func81, Tryz.ntmps81
   go_wp2_with (first | (go_at_call 53; refine (isWidth_any _ _).mono ?_; rintro e w' ⟨rfl, rfl⟩) | (go_at_call 117; refine (inRange_any _ _ _ _).mono ?_; rintro e w' ⟨rfl, rfl⟩))
   go_ret
   exact ⟨ret_bool E.out.symm, he⟩
 cases b2 : inR h.number 0 399
 · have E := hU (show headOk n h = false by simp [headOk, b2])
   go_enter Tryz.func81, Tryz.ntmps81
   go_wp2_with (first | (go_at_call 53; refine (isWidth_any _ _).mono ?_; rintro e w' ⟨rfl, rfl⟩) | (go_at_call 117; refine (inRange_any _ _ _ _).mono ?_; rintro e w' ⟨rfl, rfl⟩))
   go_ret
   exact ⟨ret_bool E.out.symm, he⟩
 cases b3 : rootB n h.size h.root
 · have E := hU (show headOk n h = false by simp [headOk, b3])
   go_enter Tryz.func81, Tryz.ntmps81
   go_wp2_with (first | (go_at_call 53; refine (isWidth_any _ _).mono ?_; rintro e w' ⟨rfl, rfl⟩) | (go_at_call 117; refine (inRange_any _ _ _ _).mono ?_; rintro e w' ⟨rfl, rfl⟩))
   refine (rootOk_any n h.size h.root _).mono ?_
   rintro e w1 ⟨rfl, h1⟩
   replace he := he.next h1; replace K0 := K0.ext h1; clear r0 m0 h1
   obtain ⟨r0, m0⟩ := K0.rules
   go_wp2_with fail
   go_ret
   exact ⟨ret_bool E.out.symm, he⟩
 have E := hU (show headOk n h = rootB n h.taken h.takenRoot by simp only [headOk, b1, b2, b3, Bool.true_and])
 go_enter Tryz.func81, Tryz.ntmps81
 go_wp2_with (first | (go_at_call 53; refine (isWidth_any _ _).mono ?_; rintro e w' ⟨rfl, rfl⟩) | (go_at_call 117; refine (inRange_any _ _ _ _).mono ?_; rintro e w' ⟨rfl, rfl⟩))
 obtain ⟨g, hg⟩ : ∃ g, g = w.heap.size := ⟨_, rfl⟩
 rw [← hg] at K0
 rw [← hg]
 clear hg r0 m0
 refine (rootOk_any n h.size h.root _).mono ?_
 rintro e w1 ⟨rfl, h1⟩
 replace he := he.next h1; replace K0 := K0.ext h1; clear h1
 obtain ⟨r0, m0⟩ := K0.rules
 go_wp2_with fail
 refine (rootOk_any n h.taken h.takenRoot _).mono ?_
 rintro e w2 ⟨rfl, h1⟩
 replace he := he.next h1
 go_wp2_with fail
 go_ret
 exact ⟨ret_bool E.out.symm, he⟩
theorem ne_of_beq {a b : Int} {p : Bool} (h : (a == b) = p) : (a != b) = !p := by rw [bne, h]
def sone (s : ByteArray) : List Value := [.string s]
theorem sone_length (s : ByteArray) : (sone s).length = 1 := rfl
def Keep (p : Nat → Prop) (w w' : World) : Prop := w.heap.size ≤ w'.heap.size ∧ ∀ b, p b → b < w.heap.size → w'.heap[b]? = w.heap[b]?
theorem Ext.keep {w w' : World} (he : Ext w w') (p : Nat → Prop) : Keep p w w' := ⟨he.size, fun b _ h => he.block b h⟩
theorem size_setCells (g : Nat) : ∀ (vs : List Value) (o : Nat) (w : World), (w.setCells g o vs).heap.size = w.heap.size
 | [], _, _ => rfl
 | v :: vs, o, w => by rw [World.setCells, size_setCells g vs]; simp [World.setCell]
theorem heap_setCells {g b : Nat} (hb : b ≠ g) : ∀ (vs : List Value) (o : Nat) (w : World), (w.setCells g o vs).heap[b]? = w.heap[b]?
 | [], _, _ => rfl
 | v :: vs, o, w => by rw [World.setCells, heap_setCells hb vs]; exact Below.heap_setCell _ ⟨g, o, none⟩ _ _ hb
def AnyB : Nat → Prop := fun _ => True
def FromB (B : Nat) : Nat → Prop := fun b => B ≤ b
structure SlF {α : Type} (p : Nat → Prop) (f : α → List Value) (size : Nat) (w : World) (A : Option Addr) (l : List α) (c : Nat) : Prop where
 le : l.length ≤ c
 cap : c ≤ maxLen
 reads : ReadsL w w.heap.size f size A l
 low : 0 < l.length → ∀ a, A = some a → p a.block
section
variable {α : Type} {p q : Nat → Prop} {f : α → List Value} {size : Nat} {w w' : World} {A : Option Addr} {l : List α} {c : Nat}
theorem SlF.keep (h : SlF p f size w A l c) (he : Keep p w w') : SlF p f size w' A l c := by
 obtain ⟨h1, h2, h3, h4⟩ := h
 refine ⟨h1, h2, ⟨h3.1, fun hn => ?_⟩, h4⟩
 obtain ⟨b, off, e, hb, hc⟩ := h3.2 hn
 exact ⟨b, off, e, Nat.lt_of_lt_of_le hb he.1, fun j u hu => (World.cell?_of_block (w := w) (he.2 b (h4 hn _ e) hb)).trans (hc j u hu)⟩
theorem SlF.ext (h : SlF p f size w A l c) (he : Ext w w') : SlF p f size w' A l c := h.keep (he.keep p)
theorem SlF.len (h : SlF p f size w A l c) : l.length ≤ maxLen := Nat.le_trans h.le h.cap
theorem SlF.mono (h : SlF p f size w A l c) (hp : ∀ b, p b → q b) : SlF q f size w A l c := ⟨h.le, h.cap, h.reads, fun h0 a e => hp _ (h.low h0 a e)⟩
theorem SlF.any (h : SlF p f size w A l c) : SlF AnyB f size w A l c := h.mono fun _ _ => trivial
theorem SlF.nil (p : Nat → Prop) (f : α → List Value) (size : Nat) (w : World) : SlF p f size w none [] 0 := ⟨Nat.le_refl _, Nat.zero_le _, Reads.nil_, fun h => absurd h (Nat.lt_irrefl 0)⟩
end
abbrev Rep (α : Type) := (Nat → Prop) → World → List Value → α → Prop
structure Steady {α : Type} (R : Rep α) : Prop where
 keep : ∀ {p : Nat → Prop} {w w' : World} {cs : List Value} {a : α}, R p w cs a → Keep p w w' → R p w' cs a
 mono : ∀ {p q : Nat → Prop} {w : World} {cs : List Value} {a : α}, R p w cs a → (∀ b, p b → q b) → R q w cs a
structure SlN {α : Type} (p : Nat → Prop) (R : Rep α) (size : Nat) (w : World) (A : Option Addr) (l : List α) (c : Nat) : Prop where
 le : l.length ≤ c
 cap : c ≤ maxLen
 reads : ∃ css : List (List Value), css.length = l.length ∧ (∀ cs ∈ css, cs.length = size) ∧ (∀ (i : Nat) (cs : List Value) (a : α), css[i]? = some cs → l[i]? = some a → R p w cs a) ∧ ReadsL w w.heap.size id size A css
 low : 0 < l.length → ∀ a, A = some a → p a.block
theorem flat_id_at {size : Nat} : ∀ (css : List (List Value)), (∀ cs ∈ css, cs.length = size) → ∀ (k j : Nat) (cs : List Value), css[k]? = some cs → j < size → (css.flatMap id)[k * size + j]? = cs[j]?
 | [], _, k, j, a, h, _ => by simp at h
 | b :: l, hs, 0, j, a, h, hj => by
   obtain rfl : b = a := by simpa using h
   simp only [Nat.zero_mul, Nat.zero_add, List.flatMap_cons]
   rw [List.getElem?_append_left (by rw [id, hs b (by simp)]; exact hj)]
   rfl
 | b :: l, hs, k + 1, j, a, h, hj => by
   rw [List.flatMap_cons, Nat.succ_mul, List.getElem?_append_right (by rw [id, hs b (by simp)]; omega), id, hs b (by simp), show k * size + size + j - size = k * size + j by omega]
   exact flat_id_at l (fun cs h => hs cs (by simp [h])) k j a (by simpa using h) hj
section
variable {α : Type} {p q : Nat → Prop} {R : Rep α} {size : Nat} {w w' : World} {A : Option Addr} {l : List α} {c : Nat}
theorem SlN.keep (hR : Steady R) (h : SlN p R size w A l c) (he : Keep p w w') : SlN p R size w' A l c := by
 obtain ⟨h1, h2, ⟨css, h3, h4, h5, h6⟩, h7⟩ := h
 refine ⟨h1, h2, ⟨css, h3, h4, fun i cs a x y => hR.keep (h5 i cs a x y) he, h6.1, fun hn => ?_⟩, h7⟩
 obtain ⟨b, off, e, hb, hc⟩ := h6.2 hn
 exact ⟨b, off, e, Nat.lt_of_lt_of_le hb he.1, fun j u hu => (World.cell?_of_block (w := w) (he.2 b (h7 (by omega) _ e) hb)).trans (hc j u hu)⟩
theorem SlN.ext (hR : Steady R) (h : SlN p R size w A l c) (he : Ext w w') : SlN p R size w' A l c := h.keep hR (he.keep p)
theorem SlN.at_ (h : SlN p R size w A l c) {k : Nat} (hk : k < l.length) : ∃ b off cs, A = some ⟨b, off, none⟩ ∧ b < w.heap.size ∧ cs.length = size ∧ R p w cs l[k] ∧ ∀ j u, j < size → cs[j]? = some u → w.cell? ⟨b, off + k * size + j, none⟩ = some u := by
 obtain ⟨h1, h2, ⟨css, h3, h4, h5, h6⟩, h7⟩ := h
 have hkc : css[k]? = some (css[k]'(by omega)) := List.getElem?_eq_getElem (by omega)
 obtain ⟨b, off, e, hb, hc⟩ := Reads.at_ h6 (k := k) (by omega)
 exact ⟨b, off, _, e, hb, h4 _ (List.getElem_mem (by omega)), h5 k _ _ hkc (List.getElem?_eq_getElem hk), fun j u hj hu => hc j u (by rw [flat_id_at css h4 k j _ hkc hj]; exact hu)⟩
end
section
variable {α : Type} {R : Rep α} {size : Nat} {t : TypeId} {l : List α} {g : Nat} {Z : Array Value} {k : Nat} {wr w1 : World}
end
theorem cells_range {w : World} {b o n : Nat} {cs : List Value} (hl : cs.length = n) (hc : ∀ j u, j < n → cs[j]? = some u → w.cell? ⟨b, o + j, none⟩ = some u) : w.rangeAt b o cs :=
 fun j v hv => hc j v (by have := (List.getElem?_eq_some_iff.1 hv).1; omega) hv
theorem Blk.range {w : World} {g t : Nat} {cs : List Value} (h : Blk w g t cs.toArray) : w.rangeAt g 0 cs := fun j v hv => by rw [Nat.zero_add, h.cell]; simpa using hv
def slens (s : ByteArray) : List Nat := [s.size]
end Go.Proofs.YtgeengkdgdjcjaaGreat
