/-
  TreeP; Forks; Gapless; GivenTo; AppSrc; AppNew; Receipts; Leaf: No condition.
-/
import Derived.Test.YtgeengkdgdjcjaaGreatMerkle
import Derived.Test.YtgeengkdgdjcjaaGreatHeadOps
import Derived.Test.YtgeengkdgdjcjaaGreatWords
import Derived.Test.YtgeengkdgdjcjaaGreatReader
import Derived.Laws.AppendOwnNone
import Derived.Tactics
namespace Go.Proofs.YtgeengkdgdjcjaaGreat
set_option linter.unusedSimpArgs false
open Go.RowKit
set_option linter.unusedVariables false
def ndB (w : Int) (a b : ByteArray) : ByteArray := nodeT w (a ++ b)
def treeR (w : Int) (l : List ByteArray) : ByteArray := mroot (ndB w) (emptyR w) l
theorem nodeT_size {w : Int} {t : ByteArray} (hw : inR w 1 32 = true) (ht : t.size ≤ 4000) : (nodeT w t).size = w.toNat := by
 unfold nodeT
 exact digest_size (by rw [digestOk, hw]; simp [inR]; omega)
theorem treeR_size {w : Int} (hw : inR w 1 32 = true) : ∀ (n : Nat) (l : List ByteArray), l.length ≤ n → (∀ s ∈ l, s.size = w.toNat) → (treeR w l).size = w.toNat := by
 have hw2 := inR_true hw
 intro n
 induction n with
 | zero =>
   intro l hl _
   obtain rfl : l = [] := List.eq_nil_of_length_eq_zero (by omega)
   exact digest_size (by rw [emptyOk]; exact hw)
 | succ n ih =>
   intro l hl h
   match l, hl, h with
   | [], _, _ => exact digest_size (by rw [emptyOk]; exact hw)
   | [x], _, h => exact h x (by simp)
   | x :: y :: r, hl, h =>
     have l1 := half_lt (n := (x :: y :: r).length) (by simp)
     have l2 := half_pos (x :: y :: r).length
     have a := ih ((x :: y :: r).take (half (x :: y :: r).length)) (by rw [List.length_take]; omega) (fun s hs => h s (List.mem_of_mem_take hs))
     have b := ih ((x :: y :: r).drop (half (x :: y :: r).length)) (by rw [List.length_drop]; omega) (fun s hs => h s (List.mem_of_mem_drop hs))
     unfold treeR at a b ⊢
     rw [mroot_more _ _ (by simp)]
     refine nodeT_size hw ?_
     rw [ByteArray.size_append, a, b]; omega
set_option maxHeartbeats 2000000
def parted (a b : HeadD) : Bool := ((a.size == b.size) && !(a.root.toList == b.root.toList)) || ((a.taken == b.taken) && !(a.takenRoot.toList == b.takenRoot.toList))
theorem nes_of_beq {a b : List UInt8} {p : Bool} (h : (a == b) = p) : (a != b) = !p := by rw [bne, h]
theorem parted_any (a b : HeadD) (w : World) : Calls Tryz.prog 247 #[.agg #[.int .i64 a.number, .int .i64 a.size, .string a.root, .int .i64 a.taken, .string a.takenRoot], .agg #[.int .i64 b.number, .int .i64 b.size, .string b.root, .int .i64 b.taken, .string b.takenRoot]] w fun e w' => e = .returned (.bool (parted a b)) ∧ Ext w w' := by
 have E := hU (show parted a b = (((a.size == b.size) && !(a.root.toList == b.root.toList)) || ((a.taken == b.taken) && !(a.takenRoot.toList == b.takenRoot.toList))) from rfl)
 cases c1 : (a.size == b.size) <;> cases c2 : (a.root.toList == b.root.toList) <;> cases c3 : (a.taken == b.taken) <;> cases c4 : (a.takenRoot.toList == b.takenRoot.toList)
 all_goals
  have E2 := hU (show parted a b = _ by rw [E.out, c1, c2, c3, c4])
  have c2' := nes_of_beq c2
  have c4' := nes_of_beq c4
  clear E
  go_enter Tryz.func247, Tryz.ntmps247
  go_wp2_with fail
  go_ret
  exact ⟨ret_bool E2.out.symm, by go_grown⟩
def ofWho (x : GivenD) (who : Int) (topic : ByteArray) : Bool := (x.who == who) && (x.entry.topic.toList == topic.toList)
def gap (who : Int) (topic : ByteArray) : Nat → Int → List GivenD → Bool
 | _, _, [] => true
 | n, last, x :: xs => if ofWho x who topic = true then (if x.entry.index = n ∧ (n = 0 ∨ last < x.leaf) then gap who topic (n + 1) x.leaf xs else false) else gap who topic n last xs
def GapInv (l : List GivenD) (who : Int) (topic : ByteArray) (fin : Bool) (k n : Nat) (last : Int) : Prop := n ≤ k ∧ gap who topic n last (l.drop k) = fin
section
variable {l : List GivenD} {who : Int} {topic : ByteArray} {fin : Bool} {k n : Nat} {last : Int}
theorem GapInv.done (h : GapInv l who topic fin k n last) (hk : l.length ≤ k) : fin = true := by
 obtain ⟨_, h⟩ := h
 rw [List.drop_eq_nil_of_le hk] at h
 simpa [gap] using h.symm
theorem GapInv.other (h : GapInv l who topic fin k n last) (hk : k < l.length) (ho : ofWho l[k] who topic = false) : GapInv l who topic fin (k + 1) n last := by
 obtain ⟨h0, h⟩ := h
 rw [List.drop_eq_getElem_cons hk] at h
 simp only [gap, ho] at h
 exact ⟨by omega, by simpa using h⟩
theorem GapInv.bad (h : GapInv l who topic fin k n last) (hk : k < l.length) (ho : ofWho l[k] who topic = true) (hb : ¬ (l[k].entry.index = n ∧ (n = 0 ∨ last < l[k].leaf))) : fin = false := by
 obtain ⟨h0, h⟩ := h
 rw [List.drop_eq_getElem_cons hk] at h
 simp only [gap, ho, if_true, if_neg hb] at h
 exact h.symm
theorem GapInv.good (h : GapInv l who topic fin k n last) (hk : k < l.length) (ho : ofWho l[k] who topic = true) (hb : l[k].entry.index = n ∧ (n = 0 ∨ last < l[k].leaf)) : GapInv l who topic fin (k + 1) (n + 1) l[k].leaf := by
 obtain ⟨h0, h⟩ := h
 rw [List.drop_eq_getElem_cons hk] at h
 simp only [gap, ho, if_true, if_pos hb] at h
 exact ⟨by omega, h⟩
end
def OwnF {α : Type} (f : α → List Value) (size : Nat) (t : TypeId) (W w : World) (v : Value) (l : List α) : Prop := w.ownsRow W.heap.size t size v l.length (l.flatMap f)
theorem OwnF.ext {α : Type} {f : α → List Value} {size : Nat} {t : TypeId} {W w w' : World} {v : Value} {l : List α} (h : OwnF f size t W w v l) (he : Ext w w') : OwnF f size t W w' v l := ownsRow_ext h he
theorem info_entry : (Tryz.prog.info? 56).map (fun i => (i.zero, i.size, i.bytes)) = some (some (.agg #[.string ⟨#[]⟩, .int .i64 0, .int .i64 0, .string ⟨#[]⟩, .string ⟨#[]⟩]), 5, 64) := by kernel_rfl
def SrcL (w : World) (x : Value) (m size : Nat) (news : List Value) : Prop :=
 ((∃ c, x = .slice none 0 c) ∧ m = 0 ∧ news = []) ∨ ∃ ad c, x = .slice (some ad) m c ∧ news.length = m * size ∧ ∀ j u, news[j]? = some u → w.cell? (ad.add j) = some u
theorem srcL_own {w : World} {B e size n : Nat} {v : Value} {xs : List Value} (h : w.ownsRow B e size v n xs) : SrcL w v n size xs := by
 have h0 := h
 rcases h.2 with ⟨h1, h2⟩ | ⟨g, cap, cur, hv, hg, hh, hnc, hm, hs, ht⟩
 · refine .inl ⟨⟨0, h1⟩, h2, ?_⟩
   have := h.1
   rw [h2, Nat.zero_mul] at this
   exact List.eq_nil_of_length_eq_zero this
 · have hr : Reads w w.heap.size size (some ⟨g, 0, none⟩) n xs := Reads.of_own (c := cap) (by rw [← hv]; exact h0)
   refine .inr ⟨_, _, hv, h.1, fun j u hu => ?_⟩
   rw [add_mk]
   have hn : 0 < n := by
    rcases Nat.eq_zero_or_pos n with h2 | h2
    · have h3 := h.1
      rw [h2, Nat.zero_mul] at h3
      rw [List.eq_nil_of_length_eq_zero h3] at hu; simp at hu
    · exact h2
   obtain ⟨b, off, e, _, hc⟩ := hr.2 hn
   cases e
   exact hc j u hu
theorem srcL_keep {w w' : World} {x : Value} {m size : Nat} {news : List Value} (h : SrcL w x m size news) (hk : ∀ p : Addr, ∀ u, w.cell? p = some u → w'.cell? p = some u) : SrcL w' x m size news := by
 rcases h with h | ⟨ad, c, h1, h2, h3⟩
 · exact .inl h
 · exact .inr ⟨ad, c, h1, h2, fun j u hu => hk _ _ (h3 j u hu)⟩
theorem run_append_none {P : Program} {w : World} (base : Nat) (t ty e : TypeId) (i : TypeInfo) (size c : Nat) (ht : P.underlying t = some (.slice e)) (hi : P.info? e = some i)
 (v : Value) (n : Nat) (xs : List Value) (hown : w.ownsRow base e size v n xs) :
 (Builtin.append_ #[t, t] ty #[v, .slice none 0 c]).run P w = .ok v w := by
 rcases hown.2 with ⟨rfl, rfl⟩ | ⟨g, cap, cur, rfl, _, _, hnc, _⟩
 · simp [Builtin.append_, run_underlying ht, sizeOf, typeInfo, hi, Builtin.lenOf, Builtin.firstCells]
 · simp [Builtin.append_, run_underlying ht, sizeOf, typeInfo, hi, Builtin.lenOf, Builtin.firstCells, hnc, storeCells]
theorem run_append_empty {P : Program} (w : World) (B K : Nat) (t ty e : TypeId) (i : TypeInfo) (z : Value) (size bytes : Nat) (ht : P.underlying t = some (.slice e)) (hi : P.info? e = some i) (hz : i.zero = some z)
 (hsize : i.size = size) (hby : i.bytes = bytes) (hzs : z.cells.size = size) (hsz : 0 < size)
 (hK : Blk w K e #[]) (hB : B ≤ K) (xv : Value) (m : Nat) (news : List Value) (hsrc : SrcL w xv m size news) (h1 : ∀ u ∈ news, u.oneCell' = true)
 (h63 : m ≤ maxLen) (hbytes : m * bytes ≤ 140737488355328) :
 ∃ v' w', (Builtin.append_ #[t, t] ty #[.slice (some ⟨K, 0, none⟩) 0 0, xv]).run P w = .ok v' w' ∧ w'.ownsRow B e size v' m news ∧ Ext w w' := by
 subst hsize
 subst hby
 have hsmall : m ≤ 9223372036854775807 := by simp only [maxLen] at h63; omega
 have hown : ∀ w2 : World, Blk w2 K e #[] → w2.ownsRow B e i.size (.slice (some ⟨K, 0, none⟩) 0 0) 0 [] := fun w2 h2 => ⟨by simp, .inr ⟨K, 0, #[], rfl, hB, h2, Nat.le_refl _, Nat.zero_le _, by simp, by simp⟩⟩
 rcases hsrc with ⟨⟨c, rfl⟩, rfl, rfl⟩ | ⟨ad, c, rfl, hl, hn⟩
 · exact ⟨_, _, run_append_none B t ty e i i.size c ht hi _ 0 [] (hown w hK), hown w hK, Below.refl _ _⟩
 · rcases Nat.eq_zero_or_pos m with h0 | h0
   · subst h0
     have hnl : news = [] := List.eq_nil_of_length_eq_zero (by simpa using hl)
     subst hnl
     have hr := run_append_room (P := P) w t ty e i ht hi K 0 0 #[] hK ad 0 c [] hl hn h1 (Nat.le_refl _) (by simp)
     have hb : Blk (w.setRow K #[]) K e #[] := setRow_heap w K #[] #[] e (0, 0) hK
     refine ⟨_, _, hr, by simpa using hown _ hb, ⟨rfl, rfl, rfl, by simp [World.setRow], fun k hk => ?_⟩⟩
     by_cases hkK : k = K
     · subst hkK
       have h5 : (w.setRow k #[]).heap[k]? = w.heap[k]? := Eq.trans hb (Eq.symm hK)
       simpa using h5
     · exact setRow_other w K k _ hkK
   · have hr := run_append_grow (P := P) w t ty e i z ht hi hz ⟨K, 0, none⟩ 0 0 [] (by simp) (by simp) ad m c news hl hn (by omega) (by omega) (growslice_fits (by omega) (by simpa using hbytes))
     have hge := grownCap_ge w (0 + m) 0 e
     have hcm : grownCap w (0 + m) 0 e ≤ maxLen := grownCap_le_maxLen w (0 + m) 0 e (by omega)
     refine ⟨_, _, hr, ⟨hl, .inr ⟨w.heap.size, _, _, by rw [Nat.zero_add], Nat.le_trans hB (Nat.le_of_lt hK.lt), heap_alloc_new w.drew _, by omega, hcm, ?_, ?_⟩⟩, Ext.new (W := w) (w1 := w.drew) ⟨rfl, rfl, rfl, Nat.le_refl _, fun _ _ => rfl⟩ _⟩
     · simp only [Array.size_append, List.size_toArray, size_zeroCells, hzs, hl, List.length_nil, Nat.zero_add, ← Nat.add_mul]
       rw [Nat.zero_add] at hge
       congr 1
       exact Nat.add_sub_cancel' hge
     · simp only [Array.toList_append, List.append_assoc, List.nil_append]
       rw [← hl]
       exact List.take_left
theorem wp_append_empty {P : Program} {w : World} {o : Oper} {a : Act} {K' : Act → World → Prop} {Q : Exit → Act → World → Prop} (d : Option Tmp) (s x : Operand) (t : TypeId)
 (hd : o.dst = d) (ho : o.op = .call { callee := .builtin .append, args := #[s, x], argTypes := #[t, t] })
 (B K : Nat) (e : TypeId) (i : TypeInfo) (z : Value) (size bytes : Nat) (ht : P.underlying t = some (.slice e)) (hi : P.info? e = some i) (hz : i.zero = some z)
 (hsize : i.size = size) (hby : i.bytes = bytes) (hzs : z.cells.size = size) (hsz : 0 < size)
 (hs : a.eval s = .slice (some ⟨K, 0, none⟩) 0 0) (hK : Blk w K e #[]) (hB : B ≤ K)
 (xv : Value) (m : Nat) (news : List Value) (hx : a.eval x = xv) (hsrc : SrcL w xv m size news) (h1 : ∀ u ∈ news, u.oneCell' = true)
 (h63 : m ≤ maxLen) (hbytes : m * bytes ≤ 140737488355328)
 (h : ∀ v' w', w'.ownsRow B e size v' m news → Ext w w' → K' (a.put d v') w') : o.wp P a w K' Q := by
 subst hd
 obtain ⟨v', w', hr, h2, h3⟩ := run_append_empty (P := P) w B K t o.type e i z size bytes ht hi hz hsize hby hzs hsz hK hB xv m news hsrc h1 h63 hbytes
 unfold Oper.wp execOp
 simp only [ho, resolve, invoke, builtin, Sem.run_bind, Sem.run_pure, Result.andThen_ok, List.map_toArray, List.map_cons, List.map_nil, hs, hx, hr]
 exact h v' w' h2 h3
theorem wpList_append_empty {P : Program} {w : World} {ops : Array Oper} {rest : List Oper} {o : Oper} {a : Act} {Q : Exit → Act → World → Prop} (hgd : o.guard = none) (s x : Operand) (t : TypeId)
 (ho : o.op = .call { callee := .builtin .append, args := #[s, x], argTypes := #[t, t] })
 (B K : Nat) (e : TypeId) (i : TypeInfo) (z : Value) (size bytes : Nat) (ht : P.underlying t = some (.slice e)) (hi : P.info? e = some i) (hz : i.zero = some z)
 (hsize : i.size = size) (hby : i.bytes = bytes) (hzs : z.cells.size = size) (hsz : 0 < size)
 (hs : a.eval s = .slice (some ⟨K, 0, none⟩) 0 0) (hK : Blk w K e #[]) (hB : B ≤ K)
 (xv : Value) (m : Nat) (news : List Value) (hx : a.eval x = xv) (hsrc : SrcL w xv m size news) (h1 : ∀ u ∈ news, u.oneCell' = true)
 (h63 : m ≤ maxLen) (hbytes : m * bytes ≤ 140737488355328)
 (h : ∀ v' w', w'.ownsRow B e size v' m news → Ext w w' → wpList P ops Q rest (a.put o.dst v') w') : wpList P ops Q (o :: rest) a w :=
 wpList_plain hgd fun _ hK' => wp_append_empty _ s x t rfl ho B K e i z size bytes ht hi hz hsize hby hzs hsz hs hK hB xv m news hx hsrc h1 h63 hbytes fun v' w' h2 h3 => hK' _ _ (h v' w' h2 h3)
theorem wp_append_src {P : Program} {w : World} {o : Oper} {a : Act} {K' : Act → World → Prop} {Q : Exit → Act → World → Prop} (d : Option Tmp) (s x : Operand) (t : TypeId)
 (hd : o.dst = d) (ho : o.op = .call { callee := .builtin .append, args := #[s, x], argTypes := #[t, t] })
 (base : Nat) (e : TypeId) (i : TypeInfo) (z : Value) (size bytes : Nat) (ht : P.underlying t = some (.slice e)) (hi : P.info? e = some i) (hz : i.zero = some z)
 (hsize : i.size = size) (hby : i.bytes = bytes) (hzs : z.cells.size = size) (hsz : 0 < size)
 (v : Value) (n : Nat) (xs : List Value) (hs : a.eval s = v) (hown : w.ownsRow base e size v n xs)
 (xv : Value) (m : Nat) (news : List Value) (hx : a.eval x = xv) (hsrc : SrcL w xv m size news) (h1 : ∀ u ∈ news, u.oneCell' = true)
 (h63 : n + m ≤ maxLen) (hbytes : (n + m) * bytes ≤ 140737488355328) (hbase : base ≤ w.heap.size)
 (h : ∀ v' w', w'.ownsRow base e size v' (n + m) (xs ++ news) → w.grownBy w' v.ownBlock → K' (a.put d v') w') : o.wp P a w K' Q := by
 subst hd
 rcases hsrc with ⟨⟨c, rfl⟩, rfl, rfl⟩ | ⟨ad, c, rfl, hl, hn⟩
 · have hr := run_append_none (P := P) (w := w) base t o.type e i size c ht hi v n xs hown
   unfold Oper.wp execOp
   simp only [ho, resolve, invoke, builtin, Sem.run_bind, Sem.run_pure, Result.andThen_ok, List.map_toArray, List.map_cons, List.map_nil, hs, hx, hr]
   refine h v w ?_ (World.grownBy.refl _ _)
   rw [List.append_nil]; exact hown
 · exact wp_append_own w s x t ho base e i z size bytes ht hi hz hsize hby hzs hsz v n xs hs hown ad m c news hx hl hn h1 h63 hbytes hbase (fun v' w' a b _ => h v' w' a b)
theorem ExtBut.lower {g B : Nat} {w w' : World} (h : World.grownBy w w' (some g)) (hB : B ≤ g) (hw : B ≤ w.heap.size) : Below B w w' := ⟨h.os, h.tape, h.output, h.size, fun b hb => h.block b (by omega) (by simp; omega)⟩
def StoreS (t : TypeId) (n g : Nat) (w w' : World) : Prop := World.grownBy w w' (some g) ∧ ∃ cs : Array Value, cs.size = n ∧ Blk w' g t cs
section
variable {t n g : Nat} {w w1 w2 : World}
theorem StoreS.start {cs : Array Value} (h : Blk w g t cs) (hn : cs.size = n) : StoreS t n g w w.drew := ⟨⟨rfl, rfl, rfl, Nat.le_refl _, fun _ _ _ => rfl⟩, cs, hn, h⟩
theorem StoreS.lt (h : StoreS t n g w w1) : g < w1.heap.size := by obtain ⟨_, cs, _, hb⟩ := h; exact hb.lt
theorem StoreS.ext (h : StoreS t n g w w1) (he : Ext w1 w2) : StoreS t n g w w2 := by
 obtain ⟨h1, cs, h2, h3⟩ := h
 exact ⟨⟨he.os.trans h1.os, he.tape.trans h1.tape, he.output.trans h1.output, Nat.le_trans h1.size he.size, fun k hk hne => (he.block k (Nat.lt_of_lt_of_le hk h1.size)).trans (h1.block k hk hne)⟩, cs, h2, h3.ext he⟩
theorem StoreS.grown {B e size m : Nat} {v : Value} {xs : List Value} (h : StoreS t n g w w1) (hg : g < B) (hB : w.heap.size ≤ B) (hown : w1.ownsRow B e size v m xs) (hgr : w1.grownBy w2 v.ownBlock) : StoreS t n g w w2 := by
 obtain ⟨h1, cs, h2, h3⟩ := h
 exact ⟨⟨hgr.os.trans h1.os, hgr.tape.trans h1.tape, hgr.output.trans h1.output, Nat.le_trans h1.size hgr.size, fun k hk hne => (hgr.block k (Nat.lt_of_lt_of_le hk h1.size) (fun x => by have := (hown.lt k x.symm).1; omega)).trans (h1.block k hk hne)⟩, cs, h2, (hgr.block g h3.lt (fun x => by have := (hown.lt g x.symm).1; omega)).trans h3⟩
theorem StoreS.put (h : StoreS t n g w w1) (vs : List Value) (hv : vs.length = n) : StoreS t n g w (w1.setCells g 0 vs) ∧ Blk (w1.setCells g 0 vs) g t vs.toArray := by
 obtain ⟨h1, cs, h2, h3⟩ := h
 have k := h3.put 0 vs vs.toArray (by omega) (by rw [hv, List.take_zero, List.nil_append, List.drop_eq_nil_of_le (by rw [Array.length_toList]; omega), List.append_nil])
 have hk : ∀ (vs : List Value) (o : Nat) (w1 : World), World.grownBy w w1 (some g) → World.grownBy w (w1.setCells g o vs) (some g) := by
  intro vs
  induction vs with
  | nil => intro o w1 h; exact h
  | cons v vs ih => intro o w1 h; exact ih (o + 1) _ ⟨h.os, h.tape, h.output, by simpa [World.setCell] using h.size, fun k hk hne => (Below.heap_setCell w1 ⟨g, o, none⟩ v k (fun e => hne (by rw [e]))).trans (h.block k hk hne)⟩
 exact ⟨⟨hk vs 0 w1 h1, vs.toArray, by simp [hv], k⟩, k⟩
theorem StoreS.there (h : StoreS t n g w w1) : w1.there g 0 n := by
 obtain ⟨h1, cs, h2, h3⟩ := h
 exact h3.there 0 n (by omega)
end
theorem grow_setCells (g : Nat) : ∀ (vs : List Value) (o : Nat) (w w1 : World), World.grownBy w w1 (some g) → World.grownBy w (w1.setCells g o vs) (some g)
 | [], _, _, _, h => h
 | v :: vs, o, w, w1, h => grow_setCells g vs (o + 1) w _ ⟨h.os, h.tape, h.output, by simpa [World.setCell] using h.size, fun k hk hne => (Below.heap_setCell w1 ⟨g, o, none⟩ v k (fun e => hne (by rw [e]))).trans (h.block k hk hne)⟩
theorem ownsRow_far {w w' : World} {K g e size n : Nat} {v : Value} {xs : List Value} (h : w.ownsRow K e size v n xs) (k : World.grownBy w w' (some g)) (hg : g < K) : w'.ownsRow K e size v n xs := by
 refine ⟨h.1, ?_⟩
 rcases h.2 with h1 | ⟨b, cap, cur, hv, hb, hh, hrest⟩
 · exact .inl h1
 · exact .inr ⟨b, cap, cur, hv, hb, (k.block b (Blk.lt (t := e) (cs := cur) hh) (by simp; omega)).trans hh, hrest⟩
theorem slf_own {α : Type} {f : α → List Value} {size B : Nat} {t : TypeId} {w : World} {v : Value} {l : List α} (h : w.ownsRow B t size v l.length (l.flatMap f)) : ∃ A c, v = .slice A l.length c ∧ SlF (FromB B) f size w A l c := by
 have hr := h
 rcases hr.2 with ⟨h1, h2⟩ | ⟨g, cap, cur, hv, hg, hh, hnc, hm, hs, ht⟩
 · refine ⟨none, 0, by rw [h1, h2], ?_⟩
   obtain rfl : l = [] := List.eq_nil_of_length_eq_zero h2
   exact SlF.nil _ _ _ _
 · refine ⟨_, _, hv, ⟨hnc, hm, Reads.of_own (c := cap) (by rw [← hv]; exact h), fun _ a e => by cases e; exact hg⟩⟩
theorem entry_cells (l : List EntryD) : ∀ u ∈ l.flatMap EntryD.cells, u.oneCell' = true := by
 intro u hu
 obtain ⟨d, _, h⟩ := List.mem_flatMap.1 hu
 simp [EntryD.cells] at h
 rcases h with rfl | rfl | rfl | rfl | rfl <;> rfl
theorem Blk.src {w : World} {g : Nat} {t : TypeId} {xs : List Value} (h : Blk w g t xs.toArray) (n size c : Nat) (hl : xs.length = n * size) : SrcL w (.slice (some ⟨g, 0, none⟩) n c) n size xs :=
 .inr ⟨_, c, rfl, hl, fun j u hu => by rw [add_mk, h.cell]; simpa using hu⟩
theorem Reads.src {w : World} {B size n c : Nat} {A : Option Addr} {xs : List Value} (h : Reads w B size A n xs) : SrcL w (.slice A n c) n size xs := by
 rcases Nat.eq_zero_or_pos n with h0 | h0
 · subst h0
   have hx : xs = [] := List.eq_nil_of_length_eq_zero (by simpa using h.1)
   subst hx
   cases A with
   | none => exact .inl ⟨⟨c, rfl⟩, rfl, rfl⟩
   | some ad => exact .inr ⟨ad, c, rfl, by simp, by simp⟩
 · obtain ⟨b, off, rfl, hb, hc⟩ := h.2 h0
   exact .inr ⟨_, c, rfl, h.1, fun j u hu => by rw [add_mk]; exact hc j u hu⟩
set_option maxRecDepth 100000
theorem isIndex_any (n : Int) (w : World) : Calls Tryz.prog 196 #[.int .i64 n] w fun e w' => e = .returned (.bool (inR n 0 511)) ∧ w = w' := by
 go_enter Tryz.func196, Tryz.ntmps196
 go_wp2_with fail
 refine (inRange_any _ _ _ _).mono ?_
 rintro e w1 ⟨rfl, rfl⟩
 go_wp2_with fail
 go_ret
 exact ⟨rfl, rfl⟩
def receiptOk (d : ReceiptD) : Bool := nameOk d.reader && nameOk d.topic && inR d.index 0 511
def receiptT (d : ReceiptD) : ByteArray := ⟨#[82]⟩ ++ (octB d.reader.size ++ d.reader) ++ (octB d.topic.size ++ d.topic) ++ (octB (d.index / 256) ++ octB d.index)
def receiptText (d : ReceiptD) : ByteArray := if receiptOk d then receiptT d else ⟨#[]⟩
theorem nameOk_size {s : ByteArray} (h : nameOk s = true) : s.size ≤ 20 := by
 simp only [nameOk, Bool.and_eq_true] at h
 have := (inR_true h.1).2
 omega
theorem ReceiptOk_any (d : ReceiptD) (w : World) (hd : d.Ok) : Calls Tryz.prog 122 #[.agg #[.string d.reader, .string d.topic, .int .i64 d.index]] w fun e w' => e = .returned (.bool (receiptOk d)) ∧ Ext w w' := by
 obtain ⟨k0, k1, _⟩ := hd
 cases b1 : nameOk d.reader <;> cases b2 : nameOk d.topic
 all_goals
  go_enter Tryz.func122, Tryz.ntmps122
  go_wp2_with (first | (go_at_call_of 195 (Value.string d.reader); refine (NameOk_any _ _ k0).mono ?_; rintro e w' ⟨rfl, rfl⟩) | (go_at_call_of 195 (Value.string d.topic); refine (NameOk_any _ _ k1).mono ?_; rintro e w' ⟨rfl, rfl⟩) | (go_at_call 196; refine (isIndex_any _ _).mono ?_; rintro e w' ⟨rfl, rfl⟩))
  go_ret
  exact ⟨by simp [receiptOk, b1, b2], by go_grown⟩
theorem specReceiptOk_any (d : ReceiptD) (w : World) (hd : d.Ok) : Calls Tryz.prog 100 #[.agg #[.string d.reader, .string d.topic, .int .i64 d.index]] w fun e w' => e = .returned (.bool (receiptOk d)) ∧ Ext w w' := by
 obtain ⟨k0, k1, _⟩ := hd
 cases b1 : nameOk d.reader <;> cases b2 : nameOk d.topic
 all_goals
  go_enter Tryz.func100, Tryz.ntmps100
  go_wp2_with (first | (go_at_call_of 167 (Value.string d.reader); refine (specNameOk_any _ _ k0).mono ?_; rintro e w' ⟨rfl, rfl⟩) | (go_at_call_of 167 (Value.string d.topic); refine (specNameOk_any _ _ k1).mono ?_; rintro e w' ⟨rfl, rfl⟩) | (go_at_call 116; refine (l01In_any _ _ _ _).mono ?_; rintro e w' ⟨rfl, rfl⟩))
  go_ret
  exact ⟨by simp [receiptOk, b1, b2], by go_grown⟩
theorem ReceiptText_any (d : ReceiptD) (w : World) (hd : d.Ok) : Calls Tryz.prog 88 #[.agg #[.string d.reader, .string d.topic, .int .i64 d.index]] w fun e w' => e = .returned (.tuple #[.string (receiptText d), .bool (receiptOk d)]) ∧ Ext w w' := by
 cases b : receiptOk d
 · have Ht := hU (show receiptText d = ⟨#[]⟩ by simp [receiptText, b])
   go_enter Tryz.func88, Tryz.ntmps88
   go_wp2_with fail
   have he := Ext.new (Below.refl w.heap.size w) (.cells #[.string d.reader, .string d.topic, .int .i64 d.index] 58)
   refine (ReceiptOk_any d _ hd).mono ?_
   rintro e w1 ⟨rfl, h1⟩
   replace he := he.next h1
   go_wp2_with fail
   go_ret2
   exact ⟨by rw [Ht.out]; rfl, he⟩
 · have Ht := hU (show receiptText d = receiptT d by simp [receiptText, b])
   have hb := b
   simp only [receiptOk, Bool.and_eq_true] at hb
   have z1 := nameOk_size hb.1.1
   have z2 := nameOk_size hb.1.2
   have z3 := inR_true hb.2
   obtain ⟨z3, z4⟩ := z3
   clear hb
   have y1 : (octB (d.reader.size : Int)).size ≤ 1 := Nat.le_refl _
   have y2 : (octB (d.topic.size : Int)).size ≤ 1 := Nat.le_refl _
   have y3 : (octB (d.index / 256)).size ≤ 1 := Nat.le_refl _
   have y4 : (octB d.index).size ≤ 1 := Nat.le_refl _
   have n1 : ¬ 9223372036854775807 < 1 + ((octB (d.reader.size : Int)).size + d.reader.size) := by omega
   have n2 : ¬ 9223372036854775807 < 1 + ((octB (d.reader.size : Int)).size + d.reader.size) + ((octB (d.topic.size : Int)).size + d.topic.size) := by omega
   have n3 : ¬ 9223372036854775807 < 1 + ((octB (d.reader.size : Int)).size + d.reader.size) + ((octB (d.topic.size : Int)).size + d.topic.size) + ((octB (d.index / 256)).size + (octB d.index).size) := by omega
   go_enter Tryz.func88, Tryz.ntmps88
   go_wp2_with fail
   have hB := Blk.new w 58 #[.string d.reader, .string d.topic, .int .i64 d.index]
   have he := Ext.new (Below.refl w.heap.size w) (.cells #[.string d.reader, .string d.topic, .int .i64 d.index] 58)
   refine (ReceiptOk_any d _ hd).mono ?_
   rintro e w1 ⟨rfl, h1⟩
   replace he := he.next h1; replace hB := hB.ext h1; clear h1
   obtain ⟨g, hg⟩ : ∃ g, g = w.heap.size := ⟨_, rfl⟩
   rw [← hg] at hB
   rw [← hg]
   clear hg
   have c0 : w1.cell? ⟨g, 0, none⟩ = some (.string d.reader) := hB.cell 0
   have c1 : w1.cell? ⟨g, 1, none⟩ = some (.string d.topic) := hB.cell 1
   have c2 : w1.cell? ⟨g, 2, none⟩ = some (.int .i64 d.index) := hB.cell 2
   go_wp2_with fail
   go_region_held3 (fun w' => w'.cell? ⟨g, 0, none⟩ = some (.string d.reader) ∧ w'.cell? ⟨g, 1, none⟩ = some (.string d.topic) ∧ w'.cell? ⟨g, 2, none⟩ = some (.int .i64 d.index) ∧ Blk w' g 58 #[.string d.reader, .string d.topic, .int .i64 d.index] ∧ Ext w w')
    (first
     | exact ⟨c0, c1, c2, hB.drew, he.drew⟩
     | (go_split_ands; refine ⟨?_, ?_, ?_, ?_, ?_⟩ <;> assumption)
     | (go_split_ands; have hB' := Blk.ext (by assumption) h1; exact ⟨hB'.cell 0, hB'.cell 1, hB'.cell 2, hB', Ext.next (by assumption) h1⟩))
    (first
     | (go_at_call_of 153 (Value.string d.reader); refine (shortS_any _ _ (by omega)).mono ?_; rintro e w' ⟨rfl, h1⟩)
     | (go_at_call_of 153 (Value.string d.topic); refine (shortS_any _ _ (by omega)).mono ?_; rintro e w' ⟨rfl, h1⟩)
     | (go_at_call 154; refine (pair_any _ _ (by omega) (by omega)).mono ?_; rintro e w' ⟨rfl, h1⟩))
   all_goals
    go_wp2_with fail
    go_ret2
    refine ⟨by rw [Ht.out]; rfl, ?_⟩
    go_split_ands
    assumption
theorem specReceiptText_any (d : ReceiptD) (w : World) (hd : d.Ok) : Calls Tryz.prog 34 #[.agg #[.string d.reader, .string d.topic, .int .i64 d.index]] w fun e w' => e = .returned (.tuple #[.string (receiptText d), .bool (receiptOk d)]) ∧ Ext w w' := by
 cases b : receiptOk d
 · have Ht := hU (show receiptText d = ⟨#[]⟩ by simp [receiptText, b])
   go_enter Tryz.func34, Tryz.ntmps34
   go_wp2_with fail
   have he := Ext.new (Below.refl w.heap.size w) (.cells #[.string d.reader, .string d.topic, .int .i64 d.index] 58)
   refine (specReceiptOk_any d _ hd).mono ?_
   rintro e w1 ⟨rfl, h1⟩
   replace he := he.next h1
   go_wp2_with fail
   go_ret2
   exact ⟨by rw [Ht.out]; rfl, he⟩
 · have Ht : Hid (receiptText d = ⟨#[82]⟩ ++ (lowB d.reader.size 1 ++ d.reader) ++ (lowB d.topic.size 1 ++ d.topic) ++ lowB d.index.toNat 2) := by
    have h0 : 0 ≤ d.index := by simp only [receiptOk, Bool.and_eq_true] at b; exact (inR_true b.2).1
    rw [lowB_one, lowB_one, lowB_two, Int.toNat_of_nonneg h0]
    exact hU (by simp [receiptText, b, receiptT])
   have hb := b
   simp only [receiptOk, Bool.and_eq_true] at hb
   have z1 := nameOk_size hb.1.1
   have z2 := nameOk_size hb.1.2
   have z3 := inR_true hb.2
   obtain ⟨z3, z4⟩ := z3
   clear hb
   have y1 : (lowB d.reader.size 1).size ≤ 1 := by rw [lowB_size]; exact Nat.le_refl _
   have y2 : (lowB d.topic.size 1).size ≤ 1 := by rw [lowB_size]; exact Nat.le_refl _
   have y3 : (lowB d.index.toNat 2).size ≤ 2 := by rw [lowB_size]; exact Nat.le_refl _
   have n1 : ¬ 9223372036854775807 < 1 + ((lowB d.reader.size 1).size + d.reader.size) := by omega
   have n2 : ¬ 9223372036854775807 < 1 + ((lowB d.reader.size 1).size + d.reader.size) + ((lowB d.topic.size 1).size + d.topic.size) := by omega
   have n3 : ¬ 9223372036854775807 < 1 + ((lowB d.reader.size 1).size + d.reader.size) + ((lowB d.topic.size 1).size + d.topic.size) + (lowB d.index.toNat 2).size := by omega
   go_enter Tryz.func34, Tryz.ntmps34
   go_wp2_with fail
   have hB := Blk.new w 58 #[.string d.reader, .string d.topic, .int .i64 d.index]
   have he := Ext.new (Below.refl w.heap.size w) (.cells #[.string d.reader, .string d.topic, .int .i64 d.index] 58)
   refine (specReceiptOk_any d _ hd).mono ?_
   rintro e w1 ⟨rfl, h1⟩
   replace he := he.next h1; replace hB := hB.ext h1; clear h1
   obtain ⟨g, hg⟩ : ∃ g, g = w.heap.size := ⟨_, rfl⟩
   rw [← hg] at hB
   rw [← hg]
   clear hg
   have c0 : w1.cell? ⟨g, 0, none⟩ = some (.string d.reader) := hB.cell 0
   have c1 : w1.cell? ⟨g, 1, none⟩ = some (.string d.topic) := hB.cell 1
   have c2 : w1.cell? ⟨g, 2, none⟩ = some (.int .i64 d.index) := hB.cell 2
   go_wp2_with fail
   go_region_held3 (fun w' => w'.cell? ⟨g, 0, none⟩ = some (.string d.reader) ∧ w'.cell? ⟨g, 1, none⟩ = some (.string d.topic) ∧ w'.cell? ⟨g, 2, none⟩ = some (.int .i64 d.index) ∧ Blk w' g 58 #[.string d.reader, .string d.topic, .int .i64 d.index] ∧ Ext w w')
    (first
     | exact ⟨c0, c1, c2, hB.drew, he.drew⟩
     | (go_split_ands; refine ⟨?_, ?_, ?_, ?_, ?_⟩ <;> assumption)
     | (go_split_ands; have hB' := Blk.ext (by assumption) h1; exact ⟨hB'.cell 0, hB'.cell 1, hB'.cell 2, hB', Ext.next (by assumption) h1⟩))
    (first
     | (go_at_call_of 98 (Value.string d.reader); refine (l03Short_any _ _ (by omega)).mono ?_; rintro e w' ⟨rfl, h1⟩)
     | (go_at_call_of 98 (Value.string d.topic); refine (l03Short_any _ _ (by omega)).mono ?_; rintro e w' ⟨rfl, h1⟩)
     | (go_at_call 99; refine (l03NumberI_any _ 2 _ (by omega) (by omega) (by decide)).mono ?_; rintro e w' ⟨rfl, h1⟩))
   all_goals
    go_wp2_with fail
    go_ret2
    refine ⟨by rw [Ht.out]; rfl, ?_⟩
    go_split_ands
    assumption
def partsB (t : Int) (k b : ByteArray) : Bool := inR t 0 1000000000 && decide ((k.size : Int) ≤ 40) && decide ((b.size : Int) ≤ 400)
def entryOk (d : EntryD) : Bool := nameOk d.topic && inR d.index 0 511 && partsB d.time d.key d.body
def leafT (d : EntryD) : ByteArray := ⟨#[69]⟩ ++ (octB d.topic.size ++ d.topic) ++ (octB (d.index / 256) ++ octB d.index) ++ lowB d.time.toNat 4 ++ (octB d.key.size ++ d.key) ++ (octB ((d.body.size : Int) / 256) ++ octB d.body.size) ++ d.body
def leafText (d : EntryD) : ByteArray := if entryOk d then leafT d else ⟨#[]⟩
theorem partsOk_any (t : Int) (k b : ByteArray) (w : World) (hk : k.size ≤ maxLen) (hb : b.size ≤ maxLen) : Calls Tryz.prog 197 #[.int .i64 t, .string k, .string b] w fun e w' => e = .returned (.bool (partsB t k b)) ∧ w = w' := by
 unfold maxLen at *
 cases c1 : inR t 0 1000000000
 · go_enter Tryz.func197, Tryz.ntmps197
   go_wp2_with (go_at_call 117; refine (inRange_any _ _ _ _).mono ?_; rintro e w' ⟨rfl, rfl⟩)
   go_ret
   exact ⟨by simp [partsB, c1], rfl⟩
 · by_cases c2 : (k.size : Int) ≤ 40
   all_goals
    go_enter Tryz.func197, Tryz.ntmps197
    go_wp2_with (go_at_call 117; refine (inRange_any _ _ _ _).mono ?_; rintro e w' ⟨rfl, rfl⟩)
    go_ret
    exact ⟨by first | (simp [partsB, c1, c2]; done) | (simp [partsB, c1]; omega), rfl⟩
theorem EntryOk_any (d : EntryD) (w : World) (hd : d.Ok) : Calls Tryz.prog 120 #[.agg #[.string d.topic, .int .i64 d.index, .int .i64 d.time, .string d.key, .string d.body]] w fun e w' => e = .returned (.bool (entryOk d)) ∧ Ext w w' := by
 obtain ⟨k0, _, _, k3, k4⟩ := hd
 cases b1 : nameOk d.topic <;> cases b2 : inR d.index 0 511
 all_goals
  go_enter Tryz.func120, Tryz.ntmps120
  go_wp2_with (first | (go_at_call 195; refine (NameOk_any _ _ k0).mono ?_; rintro e w' ⟨rfl, rfl⟩) | (go_at_call 196; refine (isIndex_any _ _).mono ?_; rintro e w' ⟨rfl, rfl⟩) | (go_at_call 197; refine (partsOk_any _ _ _ _ k3 k4).mono ?_; rintro e w' ⟨rfl, rfl⟩))
  go_ret
  exact ⟨by simp [entryOk, b1, b2], by go_grown⟩
theorem specEntryOk_any (d : EntryD) (w : World) (hd : d.Ok) : Calls Tryz.prog 97 #[.agg #[.string d.topic, .int .i64 d.index, .int .i64 d.time, .string d.key, .string d.body]] w fun e w' => e = .returned (.bool (entryOk d)) ∧ Ext w w' := by
 obtain ⟨k0, _, _, k3, k4⟩ := hd
 unfold maxLen at k3 k4
 cases b1 : nameOk d.topic
 · go_enter Tryz.func97, Tryz.ntmps97
   go_wp2_with (go_at_call 167; refine (specNameOk_any _ _ k0).mono ?_; rintro e w' ⟨rfl, rfl⟩)
   go_ret
   exact ⟨by simp [entryOk, b1], by go_grown⟩
 · cases b2 : inR d.index 0 511
   · go_enter Tryz.func97, Tryz.ntmps97
     go_wp2_with (first | (go_at_call 167; refine (specNameOk_any _ _ k0).mono ?_; rintro e w' ⟨rfl, rfl⟩) | (go_at_call 116; refine (l01In_any _ _ _ _).mono ?_; rintro e w' ⟨rfl, rfl⟩))
     go_ret
     exact ⟨by simp [entryOk, b1, b2], by go_grown⟩
   · cases b3 : inR d.time 0 1000000000
     · go_enter Tryz.func97, Tryz.ntmps97
       go_wp2_with (first | (go_at_call 167; refine (specNameOk_any _ _ k0).mono ?_; rintro e w' ⟨rfl, rfl⟩) | (go_at_call 116; refine (l01In_any _ _ _ _).mono ?_; rintro e w' ⟨rfl, rfl⟩))
       go_ret
       exact ⟨by simp [entryOk, partsB, b1, b2, b3], by go_grown⟩
     · by_cases b4 : (d.key.size : Int) ≤ 40
       all_goals
        go_enter Tryz.func97, Tryz.ntmps97
        go_wp2_with (first | (go_at_call 167; refine (specNameOk_any _ _ k0).mono ?_; rintro e w' ⟨rfl, rfl⟩) | (go_at_call 116; refine (l01In_any _ _ _ _).mono ?_; rintro e w' ⟨rfl, rfl⟩))
        go_ret
        exact ⟨by first | (simp [entryOk, partsB, b1, b2, b3, b4]; done) | (simp [entryOk, partsB, b1, b2, b3]; omega), by go_grown⟩
theorem ofInts_four (n : Nat) : ofInts [(n : Int) / 16777216 % 256, (n : Int) / 65536 % 256, (n : Int) / 256 % 256, (n : Int) % 256] = lowB n 4 := by
 show _ = octB ((n / 256 ^ 3 : Nat) : Int) ++ (octB ((n / 256 ^ 2 : Nat) : Int) ++ (octB ((n / 256 ^ 1 : Nat) : Int) ++ (octB ((n / 256 ^ 0 : Nat) : Int) ++ ⟨#[]⟩)))
 rw [append_nil]
 have e : ((n / 256 ^ 3 : Nat) : Int) = (n : Int) / 16777216 ∧ ((n / 256 ^ 2 : Nat) : Int) = (n : Int) / 65536 ∧ ((n / 256 ^ 1 : Nat) : Int) = (n : Int) / 256 ∧ ((n / 256 ^ 0 : Nat) : Int) = (n : Int) := by
  refine ⟨?_, ?_, ?_, ?_⟩ <;> simp
 rw [e.1, e.2.1, e.2.2.1, e.2.2.2]
 rfl
theorem WordTextN_any (n : Nat) (w : World) (hn : n < 4294967296) : Calls Tryz.prog 155 #[.int .u32 (n : Int)] w fun e w' => e = .returned (.string (lowB n 4)) ∧ Ext w w' := by
 have hconv := conv_bytes [(n : Int) / 16777216 % 256, (n : Int) / 65536 % 256, (n : Int) / 256 % 256, (n : Int) % 256] (by intro x hx; simp only [List.mem_cons, List.not_mem_nil, or_false] at hx; omega) w
 rw [ofInts_four] at hconv
 simp only [List.length_cons, List.length_nil, Nat.zero_add, List.map_cons, List.map_nil, Nat.reduceAdd, show (n : Int) / 16777216 % 256 = (n : Int) / 16777216 from by omega] at hconv
 go_enter Tryz.func155, Tryz.ntmps155
 go_wp2_with fail
 go_ret
 exact ⟨rfl, by go_grown⟩
theorem WordTextI_any (n : Int) (w : World) (h0 : 0 ≤ n) (hn : n < 4294967296) : Calls Tryz.prog 155 #[.int .u32 n] w fun e w' => e = .returned (.string (lowB n.toNat 4)) ∧ Ext w w' := by
 obtain ⟨m, rfl⟩ := Int.eq_ofNat_of_zero_le h0
 rw [Int.toNat_natCast]
 exact WordTextN_any m w (by omega)
end Go.Proofs.YtgeengkdgdjcjaaGreat
