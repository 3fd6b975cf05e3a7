/-
  Broker1; Frm: No condition.
-/
import Derived.Test.YthnpdoadmglipaaGreatBroker0
import Derived.Test.YthnpdoadmglipaaGreatLeaf
namespace Go.Proofs.YthnpdoadmglipaaGreat
set_option linter.unusedSimpArgs false
open Go.RowKit
set_option linter.unusedVariables false
section
variable {α : Type} {nd : α → α → α} {e : α} {P : α → Prop}
theorem carryN_nil (n : Nat) (v : α) : carryN nd n [] v = [v] := by
 unfold carryN
 cases n <;> rfl
theorem carry_all (hnd : ∀ a b, P a → P b → P (nd a b)) : ∀ (n : Nat) (s : List α) (v : α), (∀ x ∈ s, P x) → P v → ∀ x ∈ carryN nd n s v, P x := by
 intro n
 induction n using Nat.strongRecOn with
 | _ n ih =>
   intro s v hs hv
   rcases Nat.mod_two_eq_zero_or_one n with h | h
   · rw [carryN_even nd h]
     intro x hx
     rcases List.mem_cons.1 hx with rfl | hx
     · exact hv
     · exact hs x hx
   · match s, hs with
     | [], _ =>
       rw [carryN_nil]
       intro x hx
       obtain rfl := List.mem_singleton.1 hx
       exact hv
     | p :: r, hs =>
       rw [carryN_odd nd h]
       exact ih (n / 2) (by omega) r _ (fun x hx => hs x (by simp [hx])) (hnd _ _ (hs p (by simp)) hv)
theorem growL_all (hnd : ∀ a b, P a → P b → P (nd a b)) : ∀ (r : List α) (n : Nat) (s : List α), (∀ x ∈ s, P x) → (∀ x ∈ r, P x) → ∀ x ∈ growL nd n s r, P x
 | [], n, s, hs, _ => hs
 | y :: r, n, s, hs, hr => by
   rw [growL_cons]
   exact growL_all hnd r _ _ (carry_all hnd n s y hs (hr y (by simp))) (fun x hx => hr x (by simp [hx]))
theorem peaks_all (hnd : ∀ a b, P a → P b → P (nd a b)) (l : List α) (h : ∀ x ∈ l, P x) : ∀ x ∈ peaksOf nd l, P x := growL_all hnd l 0 [] (by simp) h
theorem peaks_take (L : List α) {a b : Nat} (hab : a ≤ b) (hb : b ≤ L.length) : growL nd a (peaksOf nd (L.take a)) ((L.drop a).take (b - a)) = peaksOf nd (L.take b) := by
 have e1 : L.take b = L.take a ++ (L.drop a).take (b - a) := by
  rw [show b = a + (b - a) by omega, List.take_add, show a + (b - a) - a = b - a by omega]
 rw [e1, peaks_append, List.length_take, Nat.min_eq_left (by omega)]
end
theorem pc_pos : ∀ {n : Nat}, 0 < n → 0 < pc n := by
 intro n
 induction n using Nat.strongRecOn with
 | _ n ih =>
   intro h
   rw [pc_step]
   rcases Nat.mod_two_eq_zero_or_one n with h1 | h1
   · have := ih (n / 2) (by omega) (by omega); omega
   · omega
theorem pc_more {m : Nat} : pc m + 1 > pc (m + 1) ↔ m % 2 = 1 := by
 rcases Nat.mod_two_eq_zero_or_one m with h | h
 · rw [pc_even h]; omega
 · obtain ⟨h1, h2⟩ := pc_odd h
   have := pc_next (m / 2)
   rw [h1, h2]; omega
def WdT (w : Int) (s : ByteArray) : Prop := s.size = w.toNat
theorem ndB_wd {w : Int} (hw : inR w 1 32 = true) : ∀ a b, WdT w a → WdT w b → WdT w (ndB w a b) := by
 intro a b ha hb
 unfold WdT at *
 have hw2 := inR_true hw
 refine nodeT_size hw ?_
 rw [ByteArray.size_append, ha, hb]; omega
theorem peaks_wd {w : Int} (hw : inR w 1 32 = true) {l : List ByteArray} (h : ∀ x ∈ l, WdT w x) : ∀ x ∈ peaksOf (ndB w) l, WdT w x := peaks_all (ndB_wd hw) l h
def rootR (w : Int) (r : RangeD) : ByteArray := rootS (ndB w) (emptyR w) r.peaks.reverse
def rangeOkB (w : Int) (r : RangeD) : Bool := inR r.size 0 512 && decide (r.peaks.length = pc r.size.toNat) && (hashes w r.peaks && inR w 1 32)
def sealOkB (w : Int) (s : SealD) : Bool := rangeOkB w s.leaves && rangeOkB w s.taken && headOk w s.head && (s.head.size == s.leaves.size) && (s.head.root.toList == (rootR w s.leaves).toList) && (s.head.taken == s.taken.size) && (s.head.takenRoot.toList == (rootR w s.taken).toList)
theorem rangeOf_ok {w : Int} (hw : inR w 1 32 = true) {l : List ByteArray} (hl : l.length ≤ 512) (h : ∀ x ∈ l, WdT w x) : rangeOkB w (rangeOf w l) = true := by
 have hw2 := inR_true hw
 have h1 := peaks_wd hw h
 simp only [rangeOkB, rangeOf, hw, Bool.and_true, Bool.and_eq_true, decide_eq_true_eq, hashes, List.all_eq_true, List.mem_reverse, beq_iff_eq, List.length_reverse, peaks_len, Int.toNat_natCast]
 refine ⟨⟨by simp [inR]; omega, trivial⟩, fun x hx => ?_⟩
 have := h1 x hx
 unfold WdT at this
 omega
theorem rangeOf_root {w : Int} (l : List ByteArray) : rootR w (rangeOf w l) = treeR w l := by
 unfold rootR rangeOf treeR
 rw [List.reverse_reverse]
 exact peaks_root _ _ l
theorem seal_of {w : Int} {L T : List ByteArray} {h : HeadD} (hw : inR w 1 32 = true) (hL : ∀ x ∈ L, WdT w x) (hT : ∀ x ∈ T, WdT w x) (hok : headOk w h = true) (h1 : h.size ≤ L.length) (h2 : h.taken ≤ T.length) (h3 : h.root = treeR w (L.take h.size.toNat)) (h4 : h.takenRoot = treeR w (T.take h.taken.toNat)) : sealOkB w (sealOfH w L T h) = true := by
 have hk := hok
 simp only [headOk, rootB, Bool.and_eq_true] at hk
 have r1 := inR_true hk.1.2.1.1
 have r2 := inR_true hk.2.1.1
 have t1 : (L.take h.size.toNat).length = h.size.toNat := by rw [List.length_take]; omega
 have t2 : (T.take h.taken.toNat).length = h.taken.toNat := by rw [List.length_take]; omega
 simp only [sealOkB, sealOfH, Bool.and_eq_true, beq_iff_eq]
 refine ⟨⟨⟨⟨⟨⟨rangeOf_ok hw (by omega) (fun x hx => hL x (List.mem_of_mem_take hx)), rangeOf_ok hw (by omega) (fun x hx => hT x (List.mem_of_mem_take hx))⟩, hok⟩, ?_⟩, ?_⟩, ?_⟩, ?_⟩
 · simp only [rangeOf, t1]; omega
 · rw [rangeOf_root, ← h3]
 · simp only [rangeOf, t2]; omega
 · rw [rangeOf_root, ← h4]
theorem headAt_ok {n : Int} {l : List HeadD} {k : Nat} {h : HeadD} (hd : l[k]? = some h) (ha : headAt n l k = true) : headOk n h = true ∧ h.number = (k : Int) := by
 rw [headAt, hd] at ha
 simp only [Bool.and_eq_true, beq_iff_eq] at ha
 exact ha.1
theorem headAt_up {n : Int} {l : List HeadD} {j : Nat} {g h : HeadD} (hg : l[j]? = some g) (hd : l[j + 1]? = some h) (ha : headAt n l (j + 1) = true) : g.size ≤ h.size ∧ g.taken ≤ h.taken := by
 rw [headAt, hd] at ha
 simp only [hg, Bool.and_eq_true, followsB, decide_eq_true_eq] at ha
 exact ⟨ha.2.1.1.2, ha.2.1.2⟩
theorem headsOk_all {n : Int} {l : List HeadD} (h : headsOk n l = true) : inR n 1 32 = true ∧ l.length ≤ 400 ∧ ∀ k, k < l.length → headAt n l k = true := by
 simp only [headsOk, Bool.and_eq_true, decide_eq_true_eq] at h
 exact ⟨h.1.1, h.1.2, allTo_iff.1 h.2⟩
theorem headOk_in {n : Int} {h : HeadD} (hok : headOk n h = true) : 0 ≤ h.size ∧ h.size ≤ 512 ∧ 0 ≤ h.taken ∧ h.taken ≤ 512 ∧ h.root.size = n.toNat ∧ h.takenRoot.size = n.toNat := by
 simp only [headOk, rootB, Bool.and_eq_true, beq_iff_eq] at hok
 have r0 := inR_true hok.1.1.1
 have r1 := inR_true hok.1.2.1.1
 have r2 := inR_true hok.2.1.1
 have r3 := hok.1.2.1.2
 have r4 := hok.2.1.2
 omega
theorem last_at {hs : List HeadD} (h0 : 0 < hs.length) : hs[hs.length - 1]? = some (lastH hs) := by
 unfold lastH
 rw [List.getLastD_eq_getLast?, List.getLast?_eq_getElem?]
 rw [List.getElem?_eq_getElem (by omega)]; rfl
theorem broker_spec (b : BrokerD) (h : brkParts b = true) :
 (sealOkB b.width b.sealed && b.sealed.head.eqb (lastH b.heads) && sameRangeB b.sealed.leaves (rangeOf b.width ((leavesH b.width b.log.entries).take (lastH b.heads).size.toNat)) && sameRangeB b.sealed.taken (rangeOf b.width ((takenH b.width b.receipts).take (lastH b.heads).taken.toNat))) = brokerB b := by
 have hp := h
 simp only [brkParts, Bool.and_eq_true, decide_eq_true_eq] at h
 obtain ⟨⟨⟨⟨⟨⟨⟨hw, hlog⟩, hrec⟩, h0⟩, hh⟩, hz0⟩, hsl⟩, hrd⟩ := h
 obtain ⟨_, _, hall⟩ := headsOk_all hh
 have hl := last_at h0
 obtain ⟨ok, _⟩ := headAt_ok hl (hall _ (by omega))
 have sl := allTo_iff.1 hsl (b.heads.length - 1) (by omega)
 rw [sealAt, hl] at sl
 simp only [Bool.and_eq_true, decide_eq_true_eq, beq_iff_eq, bytes_toList] at sl
 obtain ⟨⟨⟨q1, q2⟩, q3⟩, q4⟩ := sl
 have so := seal_of hw (leavesH_size hw hlog) (takenH_size hw hrec) ok q1 q2 q3 q4
 rw [brokerB, hp, Bool.true_and, Bool.eq_iff_iff, sameSealB_iff]
 simp only [Bool.and_eq_true, sameRangeB_iff, HeadD.eqb_iff]
 refine ⟨fun ⟨⟨⟨k0, k1⟩, k2⟩, k3⟩ => ?_, fun k => ?_⟩
 · unfold sealOfH
   rw [← k1, k1, ← k2, ← k3, ← k1]
 · rw [← k]
   exact ⟨⟨⟨so, rfl⟩, rfl⟩, rfl⟩
def sealPrev (w : Int) (L T : List ByteArray) (hs : List HeadD) : Nat → SealD
 | 0 => ⟨⟨0, []⟩, ⟨0, []⟩, newH true w⟩
 | j + 1 => match hs[j]? with
   | some h => sealOfH w L T h
   | none => ⟨⟨0, []⟩, ⟨0, []⟩, newH true w⟩
structure Frm (X : Nat → Prop) (w w' : World) : Prop where
 os : w'.os = w.os
 tape : w'.tape = w.tape
 output : w'.output = w.output
 size : w.heap.size ≤ w'.heap.size
 block : ∀ k, k < w.heap.size → ¬ X k → w'.heap[k]? = w.heap[k]?
section
variable {X Y : Nat → Prop} {w w1 w2 w' W : World}
theorem Frm.refl (X : Nat → Prop) (w : World) : Frm X w w := ⟨rfl, rfl, rfl, Nat.le_refl _, fun _ _ _ => rfl⟩
theorem Frm.of_ext (h : Ext w w') : Frm X w w' := ⟨h.os, h.tape, h.output, h.size, fun k hk _ => h.block k hk⟩
theorem Frm.of_grown {row : Option Nat} (h : World.grownBy w w' row) (hX : ∀ b, row = some b → X b) : Frm X w w' := ⟨h.os, h.tape, h.output, h.size, fun k hk hn => h.block k hk (fun e => hn (hX k e.symm))⟩
theorem Frm.next (h : Frm X w w1) (k : Frm Y w1 w2) (hY : ∀ b, b < w.heap.size → Y b → X b) : Frm X w w2 :=
 ⟨k.os.trans h.os, k.tape.trans h.tape, k.output.trans h.output, Nat.le_trans h.size k.size, fun b hb hn => (k.block b (Nat.lt_of_lt_of_le hb h.size) (fun hy => hn (hY b hb hy))).trans (h.block b hb hn)⟩
theorem Frm.ext (h : Frm X w w1) (k : Ext w1 w2) : Frm X w w2 := h.next (Frm.of_ext (X := fun _ => False) k) (fun _ _ h => h.elim)
theorem Frm.mono (h : Frm X w w') (hX : ∀ b, b < w.heap.size → X b → Y b) : Frm Y w w' := ⟨h.os, h.tape, h.output, h.size, fun k hk hn => h.block k hk (fun hx => hn (hX k hk hx))⟩
theorem Frm.blk {g : Nat} {t : TypeId} {cs : Array Value} (h : Frm X w w') (hb : Blk w g t cs) (hg : ¬ X g) : Blk w' g t cs := (h.block g hb.lt hg).trans hb
theorem Frm.own {B e size n : Nat} {v : Value} {xs : List Value} (h : Frm X w w') (ho : w.ownsRow B e size v n xs) (hv : ∀ b, v.ownBlock = some b → ¬ X b) : w'.ownsRow B e size v n xs := by
 refine ⟨ho.1, ?_⟩
 rcases ho.2 with h1 | ⟨g, cap, cur, hv2, hg, hh, hrest⟩
 · exact .inl h1
 · exact .inr ⟨g, cap, cur, hv2, hg, (h.block g (Blk.lt (t := e) (cs := cur) hh) (hv g (by rw [hv2]; rfl))).trans hh, hrest⟩
theorem Frm.keep {p : Nat → Prop} (h : Frm X w w') (hp : ∀ b, b < w.heap.size → p b → ¬ X b) : Keep p w w' := ⟨h.size, fun b hb hl => h.block b hl (hp b hl hb)⟩
theorem Frm.toExt (he : Ext W w) (h : Frm X w w') (hX : ∀ b, b < W.heap.size → ¬ X b) : Ext W w' :=
 ⟨h.os.trans he.os, h.tape.trans he.tape, h.output.trans he.output, Nat.le_trans he.size h.size, fun b hb => (h.block b (Nat.lt_of_lt_of_le hb he.size) (hX b hb)).trans (he.block b hb)⟩
theorem Frm.drew (h : Frm X w w') : Frm X w w'.drew := ⟨h.os, h.tape, h.output, h.size, h.block⟩
theorem Frm.setCells (h : Frm X w w1) {g : Nat} (hg : g < w.heap.size → X g) : ∀ (vs : List Value) (o : Nat), Frm X w (w1.setCells g o vs) := by
 intro vs o
 refine ⟨?_, ?_, ?_, ?_, ?_⟩
 · rw [← h.os]; exact (grow_setCells g vs o w1 w1 ⟨rfl, rfl, rfl, Nat.le_refl _, fun _ _ _ => rfl⟩).os
 · rw [← h.tape]; exact (grow_setCells g vs o w1 w1 ⟨rfl, rfl, rfl, Nat.le_refl _, fun _ _ _ => rfl⟩).tape
 · rw [← h.output]; exact (grow_setCells g vs o w1 w1 ⟨rfl, rfl, rfl, Nat.le_refl _, fun _ _ _ => rfl⟩).output
 · rw [size_setCells]; exact h.size
 · intro k hk hn
   have hne : k ≠ g := fun e => hn (by subst e; exact hg hk)
   rw [heap_setCells hne]
   exact h.block k hk hn
end
def Moved (v v' : Value) (N : Nat) : Prop := ∀ b, v'.ownBlock = some b → v.ownBlock = some b ∨ N ≤ b
theorem Moved.refl (v : Value) (N : Nat) : Moved v v N := fun _ h => .inl h
theorem Moved.trans {a b c : Value} {N M : Nat} (h : Moved a b N) (k : Moved b c M) (hNM : N ≤ M) : Moved a c N := fun x hx => by
 rcases k x hx with h1 | h1
 · exact h x h1
 · exact .inr (Nat.le_trans hNM h1)
theorem ownsRow_take {w : World} {B e size n c m : Nat} {A : Option Addr} {xs : List Value} (h : w.ownsRow B e size (.slice A n c) n xs) (hm : m ≤ n) : w.ownsRow B e size (.slice A m c) m (xs.take (m * size)) := by
 have h1 : m * size ≤ n * size := Nat.mul_le_mul_right _ hm
 refine ⟨by rw [List.length_take, h.1, Nat.min_eq_left h1], ?_⟩
 rcases h.2 with ⟨h2, h3⟩ | ⟨g, cap, cur, hv, hg, hh, hnc, hcm, hs, ht⟩
 · subst h3
   obtain rfl : m = 0 := by omega
   exact .inl ⟨h2, rfl⟩
 · obtain ⟨rfl, rfl⟩ : A = some ⟨g, 0, none⟩ ∧ c = cap := by simpa using hv
   refine .inr ⟨g, c, cur, rfl, hg, hh, by omega, hcm, hs, ?_⟩
   rw [← ht, List.take_take, Nat.min_eq_left h1]
section
variable {P : Program} (w : World)
theorem run_append_moved (base : Nat) (t ty e : TypeId) (i : TypeInfo) (z : Value) (size bytes : Nat) (ht : P.underlying t = some (.slice e)) (hi : P.info? e = some i) (hz : i.zero = some z)
 (hsize : i.size = size) (hby : i.bytes = bytes) (hzs : z.cells.size = size) (hsz : 0 < size)
 (v : Value) (n : Nat) (xs : List Value) (hown : w.ownsRow base e size v n xs)
 (a : Addr) (m c : Nat) (news : List Value) (hl : news.length = m * size) (hnews : ∀ j u, news[j]? = some u → w.cell? (a.add j) = some u) (h1 : ∀ u ∈ news, u.oneCell' = true)
 (h63 : n + m ≤ maxLen) (hbytes : (n + m) * bytes ≤ 140737488355328) (hbase : base ≤ w.heap.size) :
 ∃ v' w', (Builtin.append_ #[t, t] ty #[v, .slice (some a) m c]).run P w = .ok v' w' ∧ w'.ownsRow base e size v' (n + m) (xs ++ news) ∧ w.grownBy w' v.ownBlock ∧ Moved v v' w.heap.size := by
 obtain ⟨v', w', hr, h2, h3, _⟩ := run_append_own (P := P) w base t ty e i z size bytes ht hi hz hsize hby hzs hsz v n xs hown a m c news hl hnews h1 h63 hbytes hbase
 refine ⟨v', w', hr, h2, h3, ?_⟩
 have hsmall : n + m ≤ 9223372036854775807 := by simp only [maxLen] at h63; omega
 rcases hown.2 with ⟨rfl, rfl⟩ | ⟨g, cap, cur, rfl, hbg, hg, hnc, hcm, hcs, htake⟩
 · have hx : xs = [] := List.eq_nil_of_length_eq_zero (by simpa using hown.1)
   subst hx
   obtain ⟨v2, w2, hr2, k2, _⟩ := run_append_own (P := P) w w.heap.size t ty e i z size bytes ht hi hz hsize hby hzs hsz _ 0 [] (World.ownsRow_nil w _ e size) a m c news hl hnews h1 h63 hbytes (Nat.le_refl _)
   rw [hr2] at hr
   cases hr
   intro b hb
   exact .inr (k2.lt b hb).1
 · subst hsize
   subst hby
   by_cases hroom : n + m ≤ cap
   · have hfit : n * i.size + news.length ≤ cur.size := by rw [hl, hcs, ← Nat.add_mul]; exact Nat.mul_le_mul_right _ hroom
     have hr2 := run_append_room (P := P) w t ty e i ht hi g n cap cur hg a m c news hl hnews h1 hroom hfit
     rw [hr2] at hr
     cases hr
     intro b hb
     exact .inl hb
   · have holds : ∀ j u, xs[j]? = some u → w.cell? ((⟨g, 0, none⟩ : Addr).add j) = some u := hown.cells (g := g) rfl
     have hr2 := run_append_grow (P := P) w t ty e i z ht hi hz ⟨g, 0, none⟩ n cap xs hown.1 holds a m c news hl hnews (by omega) (by omega) (growslice_fits (by omega) hbytes)
     rw [hr2] at hr
     cases hr
     intro b hb
     simp [Value.ownBlock] at hb
     exact .inr (by omega)
theorem wp_append_moved {o : Oper} {a : Act} {K : Act → World → Prop} {Q : Exit → Act → World → Prop} (s x : Operand) (t : TypeId)
 (ho : o.op = .call { callee := .builtin .append, args := #[s, x], argTypes := #[t, t] })
 (base : Nat) (e : TypeId) (i : TypeInfo) (z : Value) (size bytes : Nat) (ht : P.underlying t = some (.slice e)) (hi : P.info? e = some i) (hz : i.zero = some z)
 (hsize : i.size = size) (hby : i.bytes = bytes) (hzs : z.cells.size = size) (hsz : 0 < size)
 (v : Value) (n : Nat) (xs : List Value) (hs : a.eval s = v) (hown : w.ownsRow base e size v n xs)
 (ad : Addr) (m c : Nat) (news : List Value) (hx : a.eval x = .slice (some ad) m c) (hl : news.length = m * size) (hnews : ∀ j u, news[j]? = some u → w.cell? (ad.add j) = some u) (h1 : ∀ u ∈ news, u.oneCell' = true)
 (h63 : n + m ≤ maxLen) (hbytes : (n + m) * bytes ≤ 140737488355328) (hbase : base ≤ w.heap.size)
 (h : ∀ v' w', w'.ownsRow base e size v' (n + m) (xs ++ news) → Frm (fun b => v.ownBlock = some b) w w' → Moved v v' w.heap.size → K (a.put o.dst v') w') : o.wp P a w K Q := by
 obtain ⟨v', w', hr, h2, h3, h4⟩ := run_append_moved (P := P) w base t o.type e i z size bytes ht hi hz hsize hby hzs hsz v n xs hown ad m c news hl hnews h1 h63 hbytes hbase
 unfold Oper.wp execOp
 simp only [ho, resolve, invoke, builtin, Sem.run_bind, Sem.run_pure, Result.andThen_ok, List.map_toArray, List.map_cons, List.map_nil, hs, hx, hr]
 exact h v' w' h2 (Frm.of_grown h3 (fun b hb => hb)) h4
theorem wpList_append_moved {ops : Array Oper} {rest : List Oper} {o : Oper} {a : Act} {Q : Exit → Act → World → Prop} (hgd : o.guard = none) (s x : Operand) (t : TypeId)
 (ho : o.op = .call { callee := .builtin .append, args := #[s, x], argTypes := #[t, t] })
 (base : Nat) (e : TypeId) (i : TypeInfo) (z : Value) (size bytes : Nat) (ht : P.underlying t = some (.slice e)) (hi : P.info? e = some i) (hz : i.zero = some z)
 (hsize : i.size = size) (hby : i.bytes = bytes) (hzs : z.cells.size = size) (hsz : 0 < size)
 (v : Value) (n : Nat) (xs : List Value) (hs : a.eval s = v) (hown : w.ownsRow base e size v n xs)
 (ad : Addr) (m c : Nat) (news : List Value) (hx : a.eval x = .slice (some ad) m c) (hl : news.length = m * size) (hnews : ∀ j u, news[j]? = some u → w.cell? (ad.add j) = some u) (h1 : ∀ u ∈ news, u.oneCell' = true)
 (h63 : n + m ≤ maxLen) (hbytes : (n + m) * bytes ≤ 140737488355328) (hbase : base ≤ w.heap.size)
 (h : ∀ v' w', w'.ownsRow base e size v' (n + m) (xs ++ news) → Frm (fun b => v.ownBlock = some b) w w' → Moved v v' w.heap.size → wpList P ops Q rest (a.put o.dst v') w') : wpList P ops Q (o :: rest) a w :=
 wpList_plain hgd fun _ hK => wp_append_moved w s x t ho base e i z size bytes ht hi hz hsize hby hzs hsz v n xs hs hown ad m c news hx hl hnews h1 h63 hbytes hbase fun v' w' h2 h3 h4 => hK _ _ (h v' w' h2 h3 h4)
end
theorem Blk.adds {w : World} {g t : Nat} {cs : List Value} (h : Blk w g t cs.toArray) : ∀ j u, cs[j]? = some u → w.cell? ((⟨g, 0, none⟩ : Addr).add j) = some u := by
 intro j u hj
 rw [add_mk, h.cell]; simpa using hj
end Go.Proofs.YthnpdoadmglipaaGreat
