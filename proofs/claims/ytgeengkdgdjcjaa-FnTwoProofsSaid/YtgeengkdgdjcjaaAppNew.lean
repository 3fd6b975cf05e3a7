/-
  AppNew: No condition.
-/
import Derived.Test.YtgeengkdgdjcjaaAppSrc
namespace Go.Proofs.Ytgeengkdgdjcjaa
set_option linter.unusedSimpArgs false
open Go.RowKit
set_option linter.unusedVariables false
theorem run_append_empty {P : Program} (w : World) (B K : Nat) (t ty e : TypeId) (i : TypeInfo) (z : Value) (size bytes : Nat) (ht : P.underlying t = some (.slice e)) (hi : P.info? e = some i) (hz : i.zero = some z)
 (hsize : i.size = size) (hby : i.bytes = bytes) (hzs : z.cells.size = size) (hsz : 0 < size)
 (hK : Blk w K e #[]) (hB : B ≤ K) (xv : Value) (m : Nat) (news : List Value) (hsrc : SrcL w xv m size news) (h1 : ∀ u ∈ news, u.oneCell' = true)
 (h63 : m ≤ maxLen) (hbytes : m * bytes ≤ 140737488355328) :
 ∃ v' w', (Builtin.append_ #[t, t] ty #[.slice (some ⟨K, 0, none⟩) 0 0, xv]).run P w = .ok v' w' ∧ w'.ownsRow B e size v' m news ∧ Ext w w' := by
 subst hsize
 subst hby
 have hsmall : m ≤ 9223372036854775807 := by simp only [maxLen] at h63; omega
 have hown : ∀ w2 : World, Blk w2 K e #[] → w2.ownsRow B e i.size (.slice (some ⟨K, 0, none⟩) 0 0) 0 [] := fun w2 h2 => ⟨by simp, .inr ⟨K, 0, #[], rfl, hB, h2, Nat.le_refl _, Nat.zero_le _, by simp, by simp⟩⟩
 rcases hsrc with ⟨⟨c, rfl⟩, rfl, rfl⟩ | ⟨ad, c, rfl, hl, hn⟩
 · exact ⟨_, _, run_append_none B t ty e i i.size c ht hi _ 0 [] (hown w hK), hown w hK, Below.refl _ _⟩
 · rcases Nat.eq_zero_or_pos m with h0 | h0
   · subst h0
     have hnl : news = [] := List.eq_nil_of_length_eq_zero (by simpa using hl)
     subst hnl
     have hr := run_append_room (P := P) w t ty e i ht hi K 0 0 #[] hK ad 0 c [] hl hn h1 (Nat.le_refl _) (by simp)
     have hb : Blk (w.setRow K #[]) K e #[] := setRow_heap w K #[] #[] e (0, 0) hK
     refine ⟨_, _, hr, by simpa using hown _ hb, ⟨rfl, rfl, rfl, by simp [World.setRow], fun k hk => ?_⟩⟩
     by_cases hkK : k = K
     · subst hkK
       have h5 : (w.setRow k #[]).heap[k]? = w.heap[k]? := Eq.trans hb (Eq.symm hK)
       simpa using h5
     · exact setRow_other w K k _ hkK
   · have hr := run_append_grow (P := P) w t ty e i z ht hi hz ⟨K, 0, none⟩ 0 0 [] (by simp) (by simp) ad m c news hl hn (by omega) (by omega) (growslice_fits (by omega) (by simpa using hbytes))
     have hge := grownCap_ge w (0 + m) 0 e
     have hcm : grownCap w (0 + m) 0 e ≤ maxLen := grownCap_le_maxLen w (0 + m) 0 e (by omega)
     refine ⟨_, _, hr, ⟨hl, .inr ⟨w.heap.size, _, _, by rw [Nat.zero_add], Nat.le_trans hB (Nat.le_of_lt hK.lt), heap_alloc_new w.drew _, by omega, hcm, ?_, ?_⟩⟩, Ext.new (W := w) (w1 := w.drew) ⟨rfl, rfl, rfl, Nat.le_refl _, fun _ _ => rfl⟩ _⟩
     · simp only [Array.size_append, List.size_toArray, size_zeroCells, hzs, hl, List.length_nil, Nat.zero_add, ← Nat.add_mul]
       rw [Nat.zero_add] at hge
       congr 1
       exact Nat.add_sub_cancel' hge
     · simp only [Array.toList_append, List.append_assoc, List.nil_append]
       rw [← hl]
       exact List.take_left
theorem wp_append_empty {P : Program} {w : World} {o : Oper} {a : Act} {K' : Act → World → Prop} {Q : Exit → Act → World → Prop} (d : Option Tmp) (s x : Operand) (t : TypeId)
 (hd : o.dst = d) (ho : o.op = .call { callee := .builtin .append, args := #[s, x], argTypes := #[t, t] })
 (B K : Nat) (e : TypeId) (i : TypeInfo) (z : Value) (size bytes : Nat) (ht : P.underlying t = some (.slice e)) (hi : P.info? e = some i) (hz : i.zero = some z)
 (hsize : i.size = size) (hby : i.bytes = bytes) (hzs : z.cells.size = size) (hsz : 0 < size)
 (hs : a.eval s = .slice (some ⟨K, 0, none⟩) 0 0) (hK : Blk w K e #[]) (hB : B ≤ K)
 (xv : Value) (m : Nat) (news : List Value) (hx : a.eval x = xv) (hsrc : SrcL w xv m size news) (h1 : ∀ u ∈ news, u.oneCell' = true)
 (h63 : m ≤ maxLen) (hbytes : m * bytes ≤ 140737488355328)
 (h : ∀ v' w', w'.ownsRow B e size v' m news → Ext w w' → K' (a.put d v') w') : o.wp P a w K' Q := by
 subst hd
 obtain ⟨v', w', hr, h2, h3⟩ := run_append_empty (P := P) w B K t o.type e i z size bytes ht hi hz hsize hby hzs hsz hK hB xv m news hsrc h1 h63 hbytes
 unfold Oper.wp execOp
 simp only [ho, resolve, invoke, builtin, Sem.run_bind, Sem.run_pure, Result.andThen_ok, List.map_toArray, List.map_cons, List.map_nil, hs, hx, hr]
 exact h v' w' h2 h3
theorem wpList_append_empty {P : Program} {w : World} {ops : Array Oper} {rest : List Oper} {o : Oper} {a : Act} {Q : Exit → Act → World → Prop} (hgd : o.guard = none) (s x : Operand) (t : TypeId)
 (ho : o.op = .call { callee := .builtin .append, args := #[s, x], argTypes := #[t, t] })
 (B K : Nat) (e : TypeId) (i : TypeInfo) (z : Value) (size bytes : Nat) (ht : P.underlying t = some (.slice e)) (hi : P.info? e = some i) (hz : i.zero = some z)
 (hsize : i.size = size) (hby : i.bytes = bytes) (hzs : z.cells.size = size) (hsz : 0 < size)
 (hs : a.eval s = .slice (some ⟨K, 0, none⟩) 0 0) (hK : Blk w K e #[]) (hB : B ≤ K)
 (xv : Value) (m : Nat) (news : List Value) (hx : a.eval x = xv) (hsrc : SrcL w xv m size news) (h1 : ∀ u ∈ news, u.oneCell' = true)
 (h63 : m ≤ maxLen) (hbytes : m * bytes ≤ 140737488355328)
 (h : ∀ v' w', w'.ownsRow B e size v' m news → Ext w w' → wpList P ops Q rest (a.put o.dst v') w') : wpList P ops Q (o :: rest) a w :=
 wpList_plain hgd fun _ hK' => wp_append_empty _ s x t rfl ho B K e i z size bytes ht hi hz hsize hby hzs hsz hs hK hB xv m news hx hsrc h1 h63 hbytes fun v' w' h2 h3 => hK' _ _ (h v' w' h2 h3)
section
variable {t n g : Nat} {w w1 w2 : World}
end
theorem slf_own {α : Type} {f : α → List Value} {size B : Nat} {t : TypeId} {w : World} {v : Value} {l : List α} (h : w.ownsRow B t size v l.length (l.flatMap f)) : ∃ A c, v = .slice A l.length c ∧ SlF (FromB B) f size w A l c := by
 have hr := h
 rcases hr.2 with ⟨h1, h2⟩ | ⟨g, cap, cur, hv, hg, hh, hnc, hm, hs, ht⟩
 · refine ⟨none, 0, by rw [h1, h2], ?_⟩
   obtain rfl : l = [] := List.eq_nil_of_length_eq_zero h2
   exact SlF.nil _ _ _ _
 · refine ⟨_, _, hv, ⟨hnc, hm, Reads.of_own (c := cap) (by rw [← hv]; exact h), fun _ a e => by cases e; exact hg⟩⟩
end Go.Proofs.Ytgeengkdgdjcjaa
