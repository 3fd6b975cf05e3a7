/-
  Mem: No condition.
-/
import Derived.Test.YtgeengkdgdjcjaaArgs
import Derived.Deep.MidRow
import Derived.Laws.MakeOwn
import Derived.Laws.ResultCell
import Derived.Laws.Rows
namespace Go.Proofs.Ytgeengkdgdjcjaa
set_option linter.unusedSimpArgs false
open Go.RowKit Go.Deep
set_option linter.unusedVariables false
theorem add_mk (b off j : Nat) : (⟨b, off, none⟩ : Addr).add j = ⟨b, off + j, none⟩ := by
 unfold Addr.add
 by_cases h : j = 0 <;> simp [h]
def Reads (w : World) (B size : Nat) (A : Option Addr) (n : Nat) (cells : List Value) : Prop :=
 cells.length = n * size ∧ (0 < n → ∃ b off, A = some ⟨b, off, none⟩ ∧ b < B ∧ ∀ j u, cells[j]? = some u → w.cell? ⟨b, off + j, none⟩ = some u)
section
variable {w w' : World} {B B' size n : Nat} {A : Option Addr} {xs : List Value}
theorem Reads.nil_ : Reads w B size A 0 [] := ⟨by simp, fun h => absurd h (by omega)⟩
theorem Reads.keep (h : Reads w B size A n xs) (hk : ∀ p : Addr, p.block < B → w'.cell? p = w.cell? p) : Reads w' B size A n xs :=
 ⟨h.1, fun hn => by
  obtain ⟨b, off, e, hb, hc⟩ := h.2 hn
  exact ⟨b, off, e, hb, fun j u hu => (hk _ hb).trans (hc j u hu)⟩⟩
theorem Reads.more (h : Reads w B size A n xs) (hB : B ≤ B') : Reads w B' size A n xs :=
 ⟨h.1, fun hn => by
  obtain ⟨b, off, e, hb, hc⟩ := h.2 hn
  exact ⟨b, off, e, by omega, hc⟩⟩
theorem Reads.below (h : Reads w B size A n xs) (hb : Below B w w') : Reads w' B size A n xs := h.keep fun _ hp => hb.cell hp
theorem Reads.ext (h : Reads w w.heap.size size A n xs) (he : Ext w w') : Reads w' w'.heap.size size A n xs := (h.below he).more he.size
theorem Reads.drewN (h : Reads w B size A n xs) (k : Nat) : Reads (w.drewN k) B size A n xs := h
theorem Reads.alloc (h : Reads w B size A n xs) (hB : B ≤ w.heap.size) (o : Obj) : Reads (w.alloc o) B size A n xs := h.keep fun p hp => World.cell?_alloc_lt w o p (by omega)
theorem Reads.setCell (h : Reads w B size A n xs) {p : Addr} (hB : B ≤ p.block) (u : Value) : Reads (w.setCell p u) B size A n xs :=
 h.keep fun q hq => World.cell?_setCell_other w p q u (fun e => by subst e; omega)
theorem Reads.at_ (h : Reads w B size A n xs) {k : Nat} (hk : k < n) : ∃ b off, A = some ⟨b, off, none⟩ ∧ b < B ∧ ∀ j u, xs[k * size + j]? = some u → w.cell? ⟨b, off + k * size + j, none⟩ = some u := by
 obtain ⟨b, off, e, hb, hc⟩ := h.2 (by omega)
 exact ⟨b, off, e, hb, fun j u hu => by rw [Nat.add_assoc]; exact hc _ u hu⟩
end
theorem flat_at {α : Type} (f : α → List Value) (size : Nat) (hf : ∀ a, (f a).length = size) : ∀ (l : List α) (k j : Nat) (a : α), l[k]? = some a → j < size → (l.flatMap f)[k * size + j]? = (f a)[j]?
 | [], k, j, a, h, _ => by simp at h
 | b :: l, 0, j, a, h, hj => by
   obtain rfl : b = a := by simpa using h
   simp only [Nat.zero_mul, Nat.zero_add, List.flatMap_cons]
   rw [List.getElem?_append_left (by rw [hf]; exact hj)]
 | b :: l, k + 1, j, a, h, hj => by
   have h' : l[k]? = some a := by simpa using h
   rw [List.flatMap_cons, List.getElem?_append_right (by rw [hf, Nat.succ_mul]; omega), hf]
   rw [show (k + 1) * size + j - size = k * size + j by rw [Nat.succ_mul]; omega]
   exact flat_at f size hf l k j a h' hj
theorem flat_len {α : Type} (f : α → List Value) (size : Nat) (hf : ∀ a, (f a).length = size) : ∀ (l : List α), (l.flatMap f).length = l.length * size
 | [] => by simp
 | b :: l => by rw [List.flatMap_cons, List.length_append, hf, flat_len f size hf l, List.length_cons, Nat.succ_mul]; omega
def ReadsL {α : Type} (w : World) (B : Nat) (f : α → List Value) (size : Nat) (A : Option Addr) (l : List α) : Prop := Reads w B size A l.length (l.flatMap f)
section
variable {P : Program} {w : World} {n : Nat} {t : TypeId} {cs : List Value}
theorem typed_int {k : IntKind} (hu : P.underlying t = some (.int k)) (h : Typed P w n t cs) : ∃ m, cs = [.int k m] ∧ (Lit.int k m).wf = true := by
 cases n with
 | zero => cases h
 | succ n => unfold Typed at h; rw [hu] at h; exact h
theorem choose_list {α : Type} (p : Nat → α → Prop) : ∀ (n : Nat), (∀ i, i < n → ∃ a, p i a) → ∃ l : List α, l.length = n ∧ ∀ i a, l[i]? = some a → p i a
 | 0, _ => ⟨[], rfl, fun i a h => by simp at h⟩
 | n + 1, h => by
   obtain ⟨l, hl, hp⟩ := choose_list p n (fun i hi => h i (by omega))
   obtain ⟨a, ha⟩ := h n (by omega)
   refine ⟨l ++ [a], by simp [hl], fun i b hb => ?_⟩
   rcases Nat.lt_or_ge i n with hlt | hge
   · exact hp i b (by rw [← hb, List.getElem?_append_left (by omega)])
   · have : i = n := by
      have := (List.getElem?_eq_some_iff.1 hb).1
      simp at this; omega
     subst this
     rw [List.getElem?_append_right (by omega), hl] at hb
     simp at hb
     subst hb
     exact ha
theorem typed_slice {α : Type} {e : TypeId} (f : α → List Value) (p : α → Prop) (size : Nat) (hu : P.underlying t = some (.slice e)) (hsz : P.cellsOf e = size) (hpos : 0 < size) (hf : ∀ a, (f a).length = size)
 (hel : ∀ m es, Typed P w m e es → ∃ a, es = f a ∧ p a) (h : Typed P w n t cs) :
 ∃ A c, ∃ l : List α, cs = [.slice A l.length c] ∧ l.length ≤ c ∧ c ≤ maxLen ∧ ReadsL w w.heap.size f size A l ∧ ∀ a ∈ l, p a := by
 cases n with
 | zero => cases h
 | succ n =>
   unfold Typed at h
   rw [hu] at h
   obtain ⟨A, len, c, rfl, h1, h2, h3⟩ := h
   rcases Nat.eq_zero_or_pos len with h0 | h0
   · subst h0
     exact ⟨A, c, [], rfl, h1, h2, ⟨by simp, fun h => absurd h (by simp)⟩, by simp⟩
   · obtain ⟨ad, rfl, hb, hes⟩ := h3 h0
     obtain ⟨b, off, spot⟩ := ad
     have hb := hb (by omega)
     have hall : ∀ i, i < len → ∃ a : α, p a ∧ ∀ j u, (f a)[j]? = some u → w.cell? ((⟨b, off, spot⟩ : Addr).add (i * size + j)) = some u := by
      intro i hi
      obtain ⟨es, _, hc, ht⟩ := hes i hi
      obtain ⟨a, rfl, hp⟩ := hel _ _ ht
      exact ⟨a, hp, by rw [hsz] at hc; exact hc⟩
     obtain ⟨l, hl, hp⟩ := choose_list _ len hall
     subst hl
     have hspot : spot = none := by
      have ha : l[0]? = some (l[0]'h0) := List.getElem?_eq_getElem h0
      obtain ⟨_, hc⟩ := hp 0 _ ha
      have hl0 : 0 < (f (l[0]'h0)).length := by rw [hf]; exact hpos
      have := hc 0 _ (List.getElem?_eq_getElem hl0)
      simpa [Addr.add] using World.cell?_spot this
     subst hspot
     refine ⟨_, c, l, rfl, h1, h2, ⟨flat_len f size hf l, fun _ => ⟨b, off, rfl, hb, fun j u hj => ?_⟩⟩, fun a ha => ?_⟩
     · have hjl : j < l.length * size := by
        have := (List.getElem?_eq_some_iff.1 hj).1
        rwa [flat_len f size hf] at this
       have hk : j / size < l.length := Nat.div_lt_of_lt_mul (by rw [Nat.mul_comm]; exact hjl)
       have hm : j % size < size := Nat.mod_lt _ hpos
       have e1 : j / size * size + j % size = j := by rw [Nat.mul_comm]; exact Nat.div_add_mod _ _
       have ha := List.getElem?_eq_getElem hk
       rw [← e1, flat_at f size hf l _ _ _ ha hm] at hj
       have := (hp _ _ ha).2 _ u hj
       rw [add_mk, e1] at this
       exact this
     · obtain ⟨i, hi⟩ := List.getElem?_of_mem ha
       exact (hp i a hi).1
end
theorem Blk.setCells {g : Nat} {t : TypeId} : ∀ (vs : List Value) (o : Nat) (cs : Array Value) (w : World), Blk w g t cs → o + vs.length ≤ cs.size → Blk (w.setCells g o vs) g t (cs.toList.take o ++ vs ++ cs.toList.drop (o + vs.length)).toArray
 | [], o, cs, w, h, hs => by simpa [World.setCells] using h
 | v :: vs, o, cs, w, h, hs => by
   simp only [List.length_cons] at hs
   have h1 := Blk.setCells vs (o + 1) _ _ (h.set_ o v) (by simp; omega)
   have hl : o < (cs.toList.set o v).length := by simp; omega
   have a : (cs.toList.set o v).take (o + 1) = cs.toList.take o ++ [v] := by
    rw [List.take_succ_eq_append_getElem hl, List.take_set_of_le (Nat.le_refl _), List.getElem_set_self]
   have b : (cs.toList.set o v).drop (o + 1 + vs.length) = cs.toList.drop (o + 1 + vs.length) := List.drop_set_of_lt (by omega)
   rw [Array.toList_setIfInBounds, a, b] at h1
   rw [show o + (v :: vs).length = o + 1 + vs.length by simp; omega, show cs.toList.take o ++ v :: vs = cs.toList.take o ++ [v] ++ vs by simp]
   exact h1
theorem Blk.put {w : World} {g : Nat} {t : TypeId} {cs : Array Value} (h : Blk w g t cs) (o : Nat) (vs : List Value) (cs' : Array Value) (ho : o + vs.length ≤ cs.size) (he : cs' = (cs.toList.take o ++ vs ++ cs.toList.drop (o + vs.length)).toArray) : Blk (w.setCells g o vs) g t cs' := by
 rw [he]; exact Blk.setCells vs o cs w h ho
theorem Blk.farCells {g g' : Nat} {t : TypeId} {cs : Array Value} (hne : g ≠ g') : ∀ (vs : List Value) (o : Nat) (w : World), Blk w g t cs → Blk (w.setCells g' o vs) g t cs
 | [], _, _, h => h
 | v :: vs, o, w, h => Blk.farCells hne vs (o + 1) _ (h.far (p := ⟨g', o, none⟩) hne v)
theorem ext_setCells {W : World} {g : Nat} (hg : W.heap.size ≤ g) : ∀ (vs : List Value) (o : Nat) (w : World), Ext W w → Ext W (w.setCells g o vs)
 | [], _, _, h => h
 | v :: vs, o, w, h => ext_setCells hg vs (o + 1) _ (Below.setCell h (p := ⟨g, o, none⟩) hg v)
theorem Blk.reads {w : World} {g : Nat} {t : TypeId} {xs : List Value} (h : Blk w g t xs.toArray) (n size : Nat) (hl : xs.length = n * size) : Reads w w.heap.size size (some ⟨g, 0, none⟩) n xs :=
 ⟨hl, fun _ => ⟨g, 0, rfl, h.lt, fun j u hu => by rw [h.cell]; simpa using hu⟩⟩
theorem Reads.of_own {w : World} {A : Option Addr} {n base size : Nat} {e : TypeId} {c : Nat} {xs : List Value} (h : w.ownsRow base e size (.slice A n c) n xs) : Reads w w.heap.size size A n xs := by
 refine ⟨h.1, fun hn => ?_⟩
 rcases h.2 with ⟨h1, h2⟩ | ⟨g, cap, cur, hv, hg, hh, hnc, hm, hs, ht⟩
 · omega
 · obtain ⟨rfl, _⟩ : A = some ⟨g, 0, none⟩ ∧ c = cap := by simpa using hv
   refine ⟨g, 0, rfl, Blk.lt (t := e) (cs := cur) hh, fun j u hu => ?_⟩
   rw [cell_of_row w g _ cur e (0, 0) hh, Nat.zero_add]
   have hj : j < n * size := by have := (List.getElem?_eq_some_iff.1 hu).1; rw [h.1] at this; exact this
   rw [← ht, List.getElem?_take_of_lt hj] at hu
   simpa using hu
theorem ret_row {P : Program} {fn : Func} {R : Ending → World → Prop} {a : Act} {w : World} {p : Tmp} {ty g t : Nat} {cs : Array Value} {d : TypeDesc} (h : fn.results = #[.cell p ty])
 (hp : a.tmps.getD p undef = .pointer (some ⟨g, 0, none⟩)) (hB : Blk w g t cs) (hu : P.underlying ty = some d) (hd : (match d with | .struct _ | .array _ _ => true | _ => false) = true) (hi : (P.info? ty).map (·.size) = some cs.size)
 (hdef : a.defers = []) (hR : R (.returned (.agg cs)) w) : bodyPost P fn R .ret a w :=
 bodyPost_ret (results_cell_row h a.tmps w g t cs (0, 0) d hp hB hu hd hi) hdef hR
section
variable {α : Type} {f : α → List Value} {size : Nat} {t : TypeId} {l : List α} {g : Nat} {Z : Array Value} {k : Nat} {wr w1 : World}
end
theorem ret_int {k : IntKind} {a b : Int} (h : a = b) : Ending.returned (.int k a) = .returned (.int k b) := by rw [h]
theorem ReadsL.ext {α : Type} {w w' : World} {size : Nat} {f : α → List Value} {A : Option Addr} {l : List α} (h : ReadsL w w.heap.size f size A l) (he : Ext w w') : ReadsL w' w'.heap.size f size A l := Reads.ext h he
theorem Blk.readsL {α : Type} {w : World} {g : Nat} {t : TypeId} {size : Nat} {f : α → List Value} {l : List α} (hf : ∀ a, (f a).length = size) (h : Blk w g t (l.flatMap f).toArray) : ReadsL w w.heap.size f size (some ⟨g, 0, none⟩) l :=
 Blk.reads h l.length size (flat_len f size hf l)
end Go.Proofs.Ytgeengkdgdjcjaa
