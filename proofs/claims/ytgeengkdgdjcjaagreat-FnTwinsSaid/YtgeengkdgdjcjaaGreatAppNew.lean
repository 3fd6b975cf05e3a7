/-
  AppNew: No condition.
-/
import Derived.Test.YtgeengkdgdjcjaaGreatMapStr
namespace Go.Proofs.YtgeengkdgdjcjaaGreat
set_option linter.unusedSimpArgs false
open Go.RowKit
set_option linter.unusedVariables false
theorem run_append_empty {P : Program} (w : World) (B K : Nat) (t ty e : TypeId) (i : TypeInfo) (z : Value) (size bytes : Nat) (ht : P.underlying t = some (.slice e)) (hi : P.info? e = some i) (hz : i.zero = some z)
 (hsize : i.size = size) (hby : i.bytes = bytes) (hzs : z.cells.size = size) (hsz : 0 < size)
 (hK : Blk w K e #[]) (hB : B ≤ K) (xv : Value) (m : Nat) (news : List Value) (hsrc : SrcL w xv m size news) (h1 : ∀ u ∈ news, u.oneCell' = true)
 (h63 : m ≤ maxLen) (hbytes : m * bytes ≤ 140737488355328) :
 ∃ v' w', (Builtin.append_ #[t, t] ty #[.slice (some ⟨K, 0, none⟩) 0 0, xv]).run P w = .ok v' w' ∧ w'.ownsRow B e size v' m news ∧ Ext w w' := by
 subst hsize
 subst hby
 have hsmall : m ≤ 9223372036854775807 := by simp only [maxLen] at h63; omega
 have hown : ∀ w2 : World, Blk w2 K e #[] → w2.ownsRow B e i.size (.slice (some ⟨K, 0, none⟩) 0 0) 0 [] := fun w2 h2 => ⟨by simp, .inr ⟨K, 0, #[], rfl, hB, h2, Nat.le_refl _, Nat.zero_le _, by simp, by simp⟩⟩
 rcases hsrc with ⟨⟨c, rfl⟩, rfl, rfl⟩ | ⟨ad, c, rfl, hl, hn⟩
 · exact ⟨_, _, run_append_none B t ty e i i.size c ht hi _ 0 [] (hown w hK), hown w hK, Below.refl _ _⟩
 · rcases Nat.eq_zero_or_pos m with h0 | h0
   · subst h0
     have hnl : news = [] := List.eq_nil_of_length_eq_zero (by simpa using hl)
     subst hnl
     have hr := run_append_room (P := P) w t ty e i ht hi K 0 0 #[] hK ad 0 c [] hl hn h1 (Nat.le_refl _) (by simp)
     have hb : Blk (w.setRow K #[]) K e #[] := setRow_heap w K #[] #[] e (0, 0) hK
     refine ⟨_, _, hr, by simpa using hown _ hb, ⟨rfl, rfl, rfl, by simp [World.setRow], fun k hk => ?_⟩⟩
     by_cases hkK : k = K
     · subst hkK
       have h5 : (w.setRow k #[]).heap[k]? = w.heap[k]? := Eq.trans hb (Eq.symm hK)
       simpa using h5
     · exact setRow_other w K k _ hkK
   · have hr := run_append_grow (P := P) w t ty e i z ht hi hz ⟨K, 0, none⟩ 0 0 [] (by simp) (by simp) ad m c news hl hn (by omega) (by omega) (growslice_fits (by omega) (by simpa using hbytes))
     have hge := grownCap_ge w (0 + m) 0 e
     have hcm : grownCap w (0 + m) 0 e ≤ maxLen := grownCap_le_maxLen w (0 + m) 0 e (by omega)
     refine ⟨_, _, hr, ⟨hl, .inr ⟨w.heap.size, _, _, by rw [Nat.zero_add], Nat.le_trans hB (Nat.le_of_lt hK.lt), heap_alloc_new w.drew _, by omega, hcm, ?_, ?_⟩⟩, Ext.new (W := w) (w1 := w.drew) ⟨rfl, rfl, rfl, Nat.le_refl _, fun _ _ => rfl⟩ _⟩
     · simp only [Array.size_append, List.size_toArray, size_zeroCells, hzs, hl, List.length_nil, Nat.zero_add, ← Nat.add_mul]
       rw [Nat.zero_add] at hge
       congr 1
       exact Nat.add_sub_cancel' hge
     · simp only [Array.toList_append, List.append_assoc, List.nil_append]
       rw [← hl]
       exact List.take_left
theorem wp_append_empty {P : Program} {w : World} {o : Oper} {a : Act} {K' : Act → World → Prop} {Q : Exit → Act → World → Prop} (d : Option Tmp) (s x : Operand) (t : TypeId)
 (hd : o.dst = d) (ho : o.op = .call { callee := .builtin .append, args := #[s, x], argTypes := #[t, t] })
 (B K : Nat) (e : TypeId) (i : TypeInfo) (z : Value) (size bytes : Nat) (ht : P.underlying t = some (.slice e)) (hi : P.info? e = some i) (hz : i.zero = some z)
 (hsize : i.size = size) (hby : i.bytes = bytes) (hzs : z.cells.size = size) (hsz : 0 < size)
 (hs : a.eval s = .slice (some ⟨K, 0, none⟩) 0 0) (hK : Blk w K e #[]) (hB : B ≤ K)
 (xv : Value) (m : Nat) (news : List Value) (hx : a.eval x = xv) (hsrc : SrcL w xv m size news) (h1 : ∀ u ∈ news, u.oneCell' = true)
 (h63 : m ≤ maxLen) (hbytes : m * bytes ≤ 140737488355328)
 (h : ∀ v' w', w'.ownsRow B e size v' m news → Ext w w' → K' (a.put d v') w') : o.wp P a w K' Q := by
 subst hd
 obtain ⟨v', w', hr, h2, h3⟩ := run_append_empty (P := P) w B K t o.type e i z size bytes ht hi hz hsize hby hzs hsz hK hB xv m news hsrc h1 h63 hbytes
 unfold Oper.wp execOp
 simp only [ho, resolve, invoke, builtin, Sem.run_bind, Sem.run_pure, Result.andThen_ok, List.map_toArray, List.map_cons, List.map_nil, hs, hx, hr]
 exact h v' w' h2 h3
theorem wp_append_src {P : Program} {w : World} {o : Oper} {a : Act} {K' : Act → World → Prop} {Q : Exit → Act → World → Prop} (d : Option Tmp) (s x : Operand) (t : TypeId)
 (hd : o.dst = d) (ho : o.op = .call { callee := .builtin .append, args := #[s, x], argTypes := #[t, t] })
 (base : Nat) (e : TypeId) (i : TypeInfo) (z : Value) (size bytes : Nat) (ht : P.underlying t = some (.slice e)) (hi : P.info? e = some i) (hz : i.zero = some z)
 (hsize : i.size = size) (hby : i.bytes = bytes) (hzs : z.cells.size = size) (hsz : 0 < size)
 (v : Value) (n : Nat) (xs : List Value) (hs : a.eval s = v) (hown : w.ownsRow base e size v n xs)
 (xv : Value) (m : Nat) (news : List Value) (hx : a.eval x = xv) (hsrc : SrcL w xv m size news) (h1 : ∀ u ∈ news, u.oneCell' = true)
 (h63 : n + m ≤ maxLen) (hbytes : (n + m) * bytes ≤ 140737488355328) (hbase : base ≤ w.heap.size)
 (h : ∀ v' w', w'.ownsRow base e size v' (n + m) (xs ++ news) → w.grownBy w' v.ownBlock → K' (a.put d v') w') : o.wp P a w K' Q := by
 subst hd
 rcases hsrc with ⟨⟨c, rfl⟩, rfl, rfl⟩ | ⟨ad, c, rfl, hl, hn⟩
 · have hr := run_append_none (P := P) (w := w) base t o.type e i size c ht hi v n xs hown
   unfold Oper.wp execOp
   simp only [ho, resolve, invoke, builtin, Sem.run_bind, Sem.run_pure, Result.andThen_ok, List.map_toArray, List.map_cons, List.map_nil, hs, hx, hr]
   refine h v w ?_ (World.grownBy.refl _ _)
   rw [List.append_nil]; exact hown
 · exact wp_append_own w s x t ho base e i z size bytes ht hi hz hsize hby hzs hsz v n xs hs hown ad m c news hx hl hn h1 h63 hbytes hbase (fun v' w' a b _ => h v' w' a b)
theorem ExtBut.lower {g B : Nat} {w w' : World} (h : World.grownBy w w' (some g)) (hB : B ≤ g) (hw : B ≤ w.heap.size) : Below B w w' := ⟨h.os, h.tape, h.output, h.size, fun b hb => h.block b (by omega) (by simp; omega)⟩
def StoreS (t : TypeId) (n g : Nat) (w w' : World) : Prop := World.grownBy w w' (some g) ∧ ∃ cs : Array Value, cs.size = n ∧ Blk w' g t cs
section
variable {t n g : Nat} {w w1 w2 : World}
theorem StoreS.start {cs : Array Value} (h : Blk w g t cs) (hn : cs.size = n) : StoreS t n g w w.drew := ⟨⟨rfl, rfl, rfl, Nat.le_refl _, fun _ _ _ => rfl⟩, cs, hn, h⟩
theorem StoreS.ext (h : StoreS t n g w w1) (he : Ext w1 w2) : StoreS t n g w w2 := by
 obtain ⟨h1, cs, h2, h3⟩ := h
 exact ⟨⟨he.os.trans h1.os, he.tape.trans h1.tape, he.output.trans h1.output, Nat.le_trans h1.size he.size, fun k hk hne => (he.block k (Nat.lt_of_lt_of_le hk h1.size)).trans (h1.block k hk hne)⟩, cs, h2, h3.ext he⟩
theorem StoreS.grown {B e size m : Nat} {v : Value} {xs : List Value} (h : StoreS t n g w w1) (hg : g < B) (hB : w.heap.size ≤ B) (hown : w1.ownsRow B e size v m xs) (hgr : w1.grownBy w2 v.ownBlock) : StoreS t n g w w2 := by
 obtain ⟨h1, cs, h2, h3⟩ := h
 exact ⟨⟨hgr.os.trans h1.os, hgr.tape.trans h1.tape, hgr.output.trans h1.output, Nat.le_trans h1.size hgr.size, fun k hk hne => (hgr.block k (Nat.lt_of_lt_of_le hk h1.size) (fun x => by have := (hown.lt k x.symm).1; omega)).trans (h1.block k hk hne)⟩, cs, h2, (hgr.block g h3.lt (fun x => by have := (hown.lt g x.symm).1; omega)).trans h3⟩
theorem StoreS.put (h : StoreS t n g w w1) (vs : List Value) (hv : vs.length = n) : StoreS t n g w (w1.setCells g 0 vs) ∧ Blk (w1.setCells g 0 vs) g t vs.toArray := by
 obtain ⟨h1, cs, h2, h3⟩ := h
 have k := h3.put 0 vs vs.toArray (by omega) (by rw [hv, List.take_zero, List.nil_append, List.drop_eq_nil_of_le (by rw [Array.length_toList]; omega), List.append_nil])
 have hk : ∀ (vs : List Value) (o : Nat) (w1 : World), World.grownBy w w1 (some g) → World.grownBy w (w1.setCells g o vs) (some g) := by
  intro vs
  induction vs with
  | nil => intro o w1 h; exact h
  | cons v vs ih => intro o w1 h; exact ih (o + 1) _ ⟨h.os, h.tape, h.output, by simpa [World.setCell] using h.size, fun k hk hne => (Below.heap_setCell w1 ⟨g, o, none⟩ v k (fun e => hne (by rw [e]))).trans (h.block k hk hne)⟩
 exact ⟨⟨hk vs 0 w1 h1, vs.toArray, by simp [hv], k⟩, k⟩
theorem StoreS.there (h : StoreS t n g w w1) : w1.there g 0 n := by
 obtain ⟨h1, cs, h2, h3⟩ := h
 exact h3.there 0 n (by omega)
end
theorem grow_setCells (g : Nat) : ∀ (vs : List Value) (o : Nat) (w w1 : World), World.grownBy w w1 (some g) → World.grownBy w (w1.setCells g o vs) (some g)
 | [], _, _, _, h => h
 | v :: vs, o, w, w1, h => grow_setCells g vs (o + 1) w _ ⟨h.os, h.tape, h.output, by simpa [World.setCell] using h.size, fun k hk hne => (Below.heap_setCell w1 ⟨g, o, none⟩ v k (fun e => hne (by rw [e]))).trans (h.block k hk hne)⟩
theorem ownsRow_far {w w' : World} {K g e size n : Nat} {v : Value} {xs : List Value} (h : w.ownsRow K e size v n xs) (k : World.grownBy w w' (some g)) (hg : g < K) : w'.ownsRow K e size v n xs := by
 refine ⟨h.1, ?_⟩
 rcases h.2 with h1 | ⟨b, cap, cur, hv, hb, hh, hrest⟩
 · exact .inl h1
 · exact .inr ⟨b, cap, cur, hv, hb, (k.block b (Blk.lt (t := e) (cs := cur) hh) (by simp; omega)).trans hh, hrest⟩
theorem slf_own {α : Type} {f : α → List Value} {size B : Nat} {t : TypeId} {w : World} {v : Value} {l : List α} (h : w.ownsRow B t size v l.length (l.flatMap f)) : ∃ A c, v = .slice A l.length c ∧ SlF (FromB B) f size w A l c := by
 have hr := h
 rcases hr.2 with ⟨h1, h2⟩ | ⟨g, cap, cur, hv, hg, hh, hnc, hm, hs, ht⟩
 · refine ⟨none, 0, by rw [h1, h2], ?_⟩
   obtain rfl : l = [] := List.eq_nil_of_length_eq_zero h2
   exact SlF.nil _ _ _ _
 · refine ⟨_, _, hv, ⟨hnc, hm, Reads.of_own (c := cap) (by rw [← hv]; exact h), fun _ a e => by cases e; exact hg⟩⟩
theorem grow_setOwn {g p : Nat} : ∀ (vs : List Value) (o : Nat) {w w1 : World}, World.grownBy w w1 (some g) → w.heap.size ≤ p → World.grownBy w (w1.setCells p o vs) (some g)
 | [], _, _, _, h, _ => h
 | v :: vs, o, w, w1, h, hp => grow_setOwn vs (o + 1) ⟨h.os, h.tape, h.output, by simpa [World.setCell] using h.size, fun k hk hne => (Below.heap_setCell w1 ⟨p, o, none⟩ v k (by simp; omega)).trans (h.block k hk hne)⟩ hp
theorem entry_cells (l : List EntryD) : ∀ u ∈ l.flatMap EntryD.cells, u.oneCell' = true := by
 intro u hu
 obtain ⟨d, _, h⟩ := List.mem_flatMap.1 hu
 simp [EntryD.cells] at h
 rcases h with rfl | rfl | rfl | rfl | rfl <;> rfl
theorem Blk.src {w : World} {g : Nat} {t : TypeId} {xs : List Value} (h : Blk w g t xs.toArray) (n size c : Nat) (hl : xs.length = n * size) : SrcL w (.slice (some ⟨g, 0, none⟩) n c) n size xs :=
 .inr ⟨_, c, rfl, hl, fun j u hu => by rw [add_mk, h.cell]; simpa using hu⟩
theorem Reads.src {w : World} {B size n c : Nat} {A : Option Addr} {xs : List Value} (h : Reads w B size A n xs) : SrcL w (.slice A n c) n size xs := by
 rcases Nat.eq_zero_or_pos n with h0 | h0
 · subst h0
   have hx : xs = [] := List.eq_nil_of_length_eq_zero (by simpa using h.1)
   subst hx
   cases A with
   | none => exact .inl ⟨⟨c, rfl⟩, rfl, rfl⟩
   | some ad => exact .inr ⟨ad, c, rfl, by simp, by simp⟩
 · obtain ⟨b, off, rfl, hb, hc⟩ := h.2 h0
   exact .inr ⟨_, c, rfl, h.1, fun j u hu => by rw [add_mk]; exact hc j u hu⟩
end Go.Proofs.YtgeengkdgdjcjaaGreat
