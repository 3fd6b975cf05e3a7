/-
  Frm; BrkV; CopyB; StoreL: No condition.
-/
import Derived.Test.YtgeengkdgdjcjaaGreatLeaf
import Derived.Test.YtgeengkdgdjcjaaGreatBroker1
import Derived.Test.YtgeengkdgdjcjaaGreatMerkle
namespace Go.Proofs.YtgeengkdgdjcjaaGreat
set_option linter.unusedSimpArgs false
open Go.RowKit
set_option linter.unusedVariables false
structure Frm (X : Nat → Prop) (w w' : World) : Prop where
 os : w'.os = w.os
 tape : w'.tape = w.tape
 output : w'.output = w.output
 size : w.heap.size ≤ w'.heap.size
 block : ∀ k, k < w.heap.size → ¬ X k → w'.heap[k]? = w.heap[k]?
section
variable {X Y : Nat → Prop} {w w1 w2 w' W : World}
theorem Frm.refl (X : Nat → Prop) (w : World) : Frm X w w := ⟨rfl, rfl, rfl, Nat.le_refl _, fun _ _ _ => rfl⟩
theorem Frm.of_ext (h : Ext w w') : Frm X w w' := ⟨h.os, h.tape, h.output, h.size, fun k hk _ => h.block k hk⟩
theorem Frm.of_grown {row : Option Nat} (h : World.grownBy w w' row) (hX : ∀ b, row = some b → X b) : Frm X w w' := ⟨h.os, h.tape, h.output, h.size, fun k hk hn => h.block k hk (fun e => hn (hX k e.symm))⟩
theorem Frm.next (h : Frm X w w1) (k : Frm Y w1 w2) (hY : ∀ b, b < w.heap.size → Y b → X b) : Frm X w w2 :=
 ⟨k.os.trans h.os, k.tape.trans h.tape, k.output.trans h.output, Nat.le_trans h.size k.size, fun b hb hn => (k.block b (Nat.lt_of_lt_of_le hb h.size) (fun hy => hn (hY b hb hy))).trans (h.block b hb hn)⟩
theorem Frm.ext (h : Frm X w w1) (k : Ext w1 w2) : Frm X w w2 := h.next (Frm.of_ext (X := fun _ => False) k) (fun _ _ h => h.elim)
theorem Frm.mono (h : Frm X w w') (hX : ∀ b, b < w.heap.size → X b → Y b) : Frm Y w w' := ⟨h.os, h.tape, h.output, h.size, fun k hk hn => h.block k hk (fun hx => hn (hX k hk hx))⟩
theorem Frm.blk {g : Nat} {t : TypeId} {cs : Array Value} (h : Frm X w w') (hb : Blk w g t cs) (hg : ¬ X g) : Blk w' g t cs := (h.block g hb.lt hg).trans hb
theorem Frm.own {B e size n : Nat} {v : Value} {xs : List Value} (h : Frm X w w') (ho : w.ownsRow B e size v n xs) (hv : ∀ b, v.ownBlock = some b → ¬ X b) : w'.ownsRow B e size v n xs := by
 refine ⟨ho.1, ?_⟩
 rcases ho.2 with h1 | ⟨g, cap, cur, hv2, hg, hh, hrest⟩
 · exact .inl h1
 · exact .inr ⟨g, cap, cur, hv2, hg, (h.block g (Blk.lt (t := e) (cs := cur) hh) (hv g (by rw [hv2]; rfl))).trans hh, hrest⟩
theorem Frm.keep {p : Nat → Prop} (h : Frm X w w') (hp : ∀ b, b < w.heap.size → p b → ¬ X b) : Keep p w w' := ⟨h.size, fun b hb hl => h.block b hl (hp b hl hb)⟩
theorem Frm.toExt (he : Ext W w) (h : Frm X w w') (hX : ∀ b, b < W.heap.size → ¬ X b) : Ext W w' :=
 ⟨h.os.trans he.os, h.tape.trans he.tape, h.output.trans he.output, Nat.le_trans he.size h.size, fun b hb => (h.block b (Nat.lt_of_lt_of_le hb he.size) (hX b hb)).trans (he.block b hb)⟩
theorem Frm.drew (h : Frm X w w') : Frm X w w'.drew := ⟨h.os, h.tape, h.output, h.size, h.block⟩
theorem Frm.setCells (h : Frm X w w1) {g : Nat} (hg : g < w.heap.size → X g) : ∀ (vs : List Value) (o : Nat), Frm X w (w1.setCells g o vs) := by
 intro vs o
 refine ⟨?_, ?_, ?_, ?_, ?_⟩
 · rw [← h.os]; exact (grow_setCells g vs o w1 w1 ⟨rfl, rfl, rfl, Nat.le_refl _, fun _ _ _ => rfl⟩).os
 · rw [← h.tape]; exact (grow_setCells g vs o w1 w1 ⟨rfl, rfl, rfl, Nat.le_refl _, fun _ _ _ => rfl⟩).tape
 · rw [← h.output]; exact (grow_setCells g vs o w1 w1 ⟨rfl, rfl, rfl, Nat.le_refl _, fun _ _ _ => rfl⟩).output
 · rw [size_setCells]; exact h.size
 · intro k hk hn
   have hne : k ≠ g := fun e => hn (by subst e; exact hg hk)
   rw [heap_setCells hne]
   exact h.block k hk hn
end
def Moved (v v' : Value) (N : Nat) : Prop := ∀ b, v'.ownBlock = some b → v.ownBlock = some b ∨ N ≤ b
theorem Moved.refl (v : Value) (N : Nat) : Moved v v N := fun _ h => .inl h
theorem Moved.trans {a b c : Value} {N M : Nat} (h : Moved a b N) (k : Moved b c M) (hNM : N ≤ M) : Moved a c N := fun x hx => by
 rcases k x hx with h1 | h1
 · exact h x h1
 · exact .inr (Nat.le_trans hNM h1)
theorem ownsRow_take {w : World} {B e size n c m : Nat} {A : Option Addr} {xs : List Value} (h : w.ownsRow B e size (.slice A n c) n xs) (hm : m ≤ n) : w.ownsRow B e size (.slice A m c) m (xs.take (m * size)) := by
 have h1 : m * size ≤ n * size := Nat.mul_le_mul_right _ hm
 refine ⟨by rw [List.length_take, h.1, Nat.min_eq_left h1], ?_⟩
 rcases h.2 with ⟨h2, h3⟩ | ⟨g, cap, cur, hv, hg, hh, hnc, hcm, hs, ht⟩
 · subst h3
   obtain rfl : m = 0 := by omega
   exact .inl ⟨h2, rfl⟩
 · obtain ⟨rfl, rfl⟩ : A = some ⟨g, 0, none⟩ ∧ c = cap := by simpa using hv
   refine .inr ⟨g, c, cur, rfl, hg, hh, by omega, hcm, hs, ?_⟩
   rw [← ht, List.take_take, Nat.min_eq_left h1]
section
variable {P : Program} (w : World)
theorem run_append_moved (base : Nat) (t ty e : TypeId) (i : TypeInfo) (z : Value) (size bytes : Nat) (ht : P.underlying t = some (.slice e)) (hi : P.info? e = some i) (hz : i.zero = some z)
 (hsize : i.size = size) (hby : i.bytes = bytes) (hzs : z.cells.size = size) (hsz : 0 < size)
 (v : Value) (n : Nat) (xs : List Value) (hown : w.ownsRow base e size v n xs)
 (a : Addr) (m c : Nat) (news : List Value) (hl : news.length = m * size) (hnews : ∀ j u, news[j]? = some u → w.cell? (a.add j) = some u) (h1 : ∀ u ∈ news, u.oneCell' = true)
 (h63 : n + m ≤ maxLen) (hbytes : (n + m) * bytes ≤ 140737488355328) (hbase : base ≤ w.heap.size) :
 ∃ v' w', (Builtin.append_ #[t, t] ty #[v, .slice (some a) m c]).run P w = .ok v' w' ∧ w'.ownsRow base e size v' (n + m) (xs ++ news) ∧ w.grownBy w' v.ownBlock ∧ Moved v v' w.heap.size := by
 obtain ⟨v', w', hr, h2, h3, _⟩ := run_append_own (P := P) w base t ty e i z size bytes ht hi hz hsize hby hzs hsz v n xs hown a m c news hl hnews h1 h63 hbytes hbase
 refine ⟨v', w', hr, h2, h3, ?_⟩
 have hsmall : n + m ≤ 9223372036854775807 := by simp only [maxLen] at h63; omega
 rcases hown.2 with ⟨rfl, rfl⟩ | ⟨g, cap, cur, rfl, hbg, hg, hnc, hcm, hcs, htake⟩
 · have hx : xs = [] := List.eq_nil_of_length_eq_zero (by simpa using hown.1)
   subst hx
   obtain ⟨v2, w2, hr2, k2, _⟩ := run_append_own (P := P) w w.heap.size t ty e i z size bytes ht hi hz hsize hby hzs hsz _ 0 [] (World.ownsRow_nil w _ e size) a m c news hl hnews h1 h63 hbytes (Nat.le_refl _)
   rw [hr2] at hr
   cases hr
   intro b hb
   exact .inr (k2.lt b hb).1
 · subst hsize
   subst hby
   by_cases hroom : n + m ≤ cap
   · have hfit : n * i.size + news.length ≤ cur.size := by rw [hl, hcs, ← Nat.add_mul]; exact Nat.mul_le_mul_right _ hroom
     have hr2 := run_append_room (P := P) w t ty e i ht hi g n cap cur hg a m c news hl hnews h1 hroom hfit
     rw [hr2] at hr
     cases hr
     intro b hb
     exact .inl hb
   · have holds : ∀ j u, xs[j]? = some u → w.cell? ((⟨g, 0, none⟩ : Addr).add j) = some u := hown.cells (g := g) rfl
     have hr2 := run_append_grow (P := P) w t ty e i z ht hi hz ⟨g, 0, none⟩ n cap xs hown.1 holds a m c news hl hnews (by omega) (by omega) (growslice_fits (by omega) hbytes)
     rw [hr2] at hr
     cases hr
     intro b hb
     simp [Value.ownBlock] at hb
     exact .inr (by omega)
theorem wp_append_moved {o : Oper} {a : Act} {K : Act → World → Prop} {Q : Exit → Act → World → Prop} (s x : Operand) (t : TypeId)
 (ho : o.op = .call { callee := .builtin .append, args := #[s, x], argTypes := #[t, t] })
 (base : Nat) (e : TypeId) (i : TypeInfo) (z : Value) (size bytes : Nat) (ht : P.underlying t = some (.slice e)) (hi : P.info? e = some i) (hz : i.zero = some z)
 (hsize : i.size = size) (hby : i.bytes = bytes) (hzs : z.cells.size = size) (hsz : 0 < size)
 (v : Value) (n : Nat) (xs : List Value) (hs : a.eval s = v) (hown : w.ownsRow base e size v n xs)
 (ad : Addr) (m c : Nat) (news : List Value) (hx : a.eval x = .slice (some ad) m c) (hl : news.length = m * size) (hnews : ∀ j u, news[j]? = some u → w.cell? (ad.add j) = some u) (h1 : ∀ u ∈ news, u.oneCell' = true)
 (h63 : n + m ≤ maxLen) (hbytes : (n + m) * bytes ≤ 140737488355328) (hbase : base ≤ w.heap.size)
 (h : ∀ v' w', w'.ownsRow base e size v' (n + m) (xs ++ news) → Frm (fun b => v.ownBlock = some b) w w' → Moved v v' w.heap.size → K (a.put o.dst v') w') : o.wp P a w K Q := by
 obtain ⟨v', w', hr, h2, h3, h4⟩ := run_append_moved (P := P) w base t o.type e i z size bytes ht hi hz hsize hby hzs hsz v n xs hown ad m c news hl hnews h1 h63 hbytes hbase
 unfold Oper.wp execOp
 simp only [ho, resolve, invoke, builtin, Sem.run_bind, Sem.run_pure, Result.andThen_ok, List.map_toArray, List.map_cons, List.map_nil, hs, hx, hr]
 exact h v' w' h2 (Frm.of_grown h3 (fun b hb => hb)) h4
theorem wpList_append_moved {ops : Array Oper} {rest : List Oper} {o : Oper} {a : Act} {Q : Exit → Act → World → Prop} (hgd : o.guard = none) (s x : Operand) (t : TypeId)
 (ho : o.op = .call { callee := .builtin .append, args := #[s, x], argTypes := #[t, t] })
 (base : Nat) (e : TypeId) (i : TypeInfo) (z : Value) (size bytes : Nat) (ht : P.underlying t = some (.slice e)) (hi : P.info? e = some i) (hz : i.zero = some z)
 (hsize : i.size = size) (hby : i.bytes = bytes) (hzs : z.cells.size = size) (hsz : 0 < size)
 (v : Value) (n : Nat) (xs : List Value) (hs : a.eval s = v) (hown : w.ownsRow base e size v n xs)
 (ad : Addr) (m c : Nat) (news : List Value) (hx : a.eval x = .slice (some ad) m c) (hl : news.length = m * size) (hnews : ∀ j u, news[j]? = some u → w.cell? (ad.add j) = some u) (h1 : ∀ u ∈ news, u.oneCell' = true)
 (h63 : n + m ≤ maxLen) (hbytes : (n + m) * bytes ≤ 140737488355328) (hbase : base ≤ w.heap.size)
 (h : ∀ v' w', w'.ownsRow base e size v' (n + m) (xs ++ news) → Frm (fun b => v.ownBlock = some b) w w' → Moved v v' w.heap.size → wpList P ops Q rest (a.put o.dst v') w') : wpList P ops Q (o :: rest) a w :=
 wpList_plain hgd fun _ hK => wp_append_moved w s x t ho base e i z size bytes ht hi hz hsize hby hzs hsz v n xs hs hown ad m c news hx hl hnews h1 h63 hbytes hbase fun v' w' h2 h3 h4 => hK _ _ (h v' w' h2 h3 h4)
end
theorem Blk.adds {w : World} {g t : Nat} {cs : List Value} (h : Blk w g t cs.toArray) : ∀ j u, cs[j]? = some u → w.cell? ((⟨g, 0, none⟩ : Addr).add j) = some u := by
 intro j u hj
 rw [add_mk, h.cell]; simpa using hj
def brkV (b : BrokerD) (A0 : Option Addr) (c0 : Nat) (A1 : Option Addr) (c1 : Nat) (A2 : Option Addr) (c2 : Nat) (A3 : Option Addr) (c3 : Nat) (A4 : Option Addr) (c4 : Nat) : List Value :=
 [.int .i64 b.width, .slice A0 b.log.entries.length c0, .slice A1 b.receipts.length c1, .slice A2 b.heads.length c2, .int .i64 b.sealed.leaves.size, .slice A3 b.sealed.leaves.peaks.length c3, .int .i64 b.sealed.taken.size, .slice A4 b.sealed.taken.peaks.length c4, .int .i64 b.sealed.head.number, .int .i64 b.sealed.head.size, .string b.sealed.head.root, .int .i64 b.sealed.head.taken, .string b.sealed.head.takenRoot]
theorem brokerB_split (b : BrokerD) : brokerB b = (brkParts b && sameSealB (sealOfH b.width (leavesH b.width b.log.entries) (takenH b.width b.receipts) (lastH b.heads)) b.sealed) := rfl
theorem seal_lens {b : BrokerD} (h : brkParts b = true) : (sealOfH b.width (leavesH b.width b.log.entries) (takenH b.width b.receipts) (lastH b.heads)).leaves.peaks.length ≤ 1048576 ∧ (sealOfH b.width (leavesH b.width b.log.entries) (takenH b.width b.receipts) (lastH b.heads)).taken.peaks.length ≤ 1048576 := by
 simp only [brkParts, Bool.and_eq_true] at h
 have h1 := (logOk_all h.1.1.1.1.1.1.2).1
 have h2 := (recsOk_all h.1.1.1.1.1.2).1
 simp only [sealOfH, rangeOf, List.length_reverse, peaks_len]
 have a1 := pc_le ((leavesH b.width b.log.entries).take (lastH b.heads).size.toNat).length
 have a2 := pc_le ((takenH b.width b.receipts).take (lastH b.heads).taken.toNat).length
 rw [List.length_take, leavesH, List.length_map] at a1
 rw [List.length_take, takenH, List.length_map] at a2
 have b1 := Nat.min_le_right (lastH b.heads).size.toNat b.log.entries.length
 have b2 := Nat.min_le_right (lastH b.heads).taken.toNat b.receipts.length
 rw [List.length_take, List.length_take, leavesH, takenH, List.length_map, List.length_map]
 omega
set_option maxHeartbeats 1000000
set_option maxRecDepth 100000
theorem infR : (Tryz.prog.info? 58).map (fun i => (i.zero, i.size, i.bytes)) = some (some (.agg #[.string ⟨#[]⟩, .string ⟨#[]⟩, .int .i64 0]), 3, 40) := by kernel_rfl
theorem infH : (Tryz.prog.info? 33).map (fun i => (i.zero, i.size, i.bytes)) = some (some (.agg #[.int .i64 0, .int .i64 0, .string ⟨#[]⟩, .int .i64 0, .string ⟨#[]⟩]), 5, 56) := by kernel_rfl
theorem infE : (Tryz.prog.info? 56).map (fun i => (i.zero, i.size, i.bytes)) = some (some (.agg #[.string ⟨#[]⟩, .int .i64 0, .int .i64 0, .string ⟨#[]⟩, .string ⟨#[]⟩]), 5, 64) := by kernel_rfl
theorem infS : (Tryz.prog.info? 9).map (fun i => (i.zero, i.size, i.bytes)) = some (some (.string ⟨#[]⟩), 1, 16) := by kernel_rfl
theorem srcL_ext {w w' : World} {x : Value} {m size : Nat} {news : List Value} {B : Nat} (h : SrcL w x m size news) (he : Below B w w') (hB : B = w.heap.size) : SrcL w' x m size news := by
 refine srcL_keep h fun p u hu => ?_
 subst hB
 by_cases hb : p.block < w.heap.size
 · exact (Below.cell he (p := p) hb).trans hu
 · exfalso
   have : w.heap[p.block]? = none := Array.getElem?_eq_none (by omega)
   simp [World.cell?, this] at hu
theorem srcL_reads {w : World} {B size n c : Nat} {A : Option Addr} {xs : List Value} (h : Reads w B size A n xs) : SrcL w (.slice A n c) n size xs := by
 cases A with
 | none =>
   have hn : n = 0 := by
    rcases Nat.eq_zero_or_pos n with h0 | h0
    · exact h0
    · obtain ⟨b, off, e, _⟩ := h.2 h0; cases e
   subst hn
   have hx : xs = [] := List.eq_nil_of_length_eq_zero (by simpa using h.1)
   exact .inl ⟨⟨c, rfl⟩, rfl, hx⟩
 | some a =>
   refine .inr ⟨a, c, rfl, h.1, fun j u hu => ?_⟩
   have hn : 0 < n := by
    rcases Nat.eq_zero_or_pos n with h0 | h0
    · subst h0
      have hx : xs = [] := List.eq_nil_of_length_eq_zero (by simpa using h.1)
      rw [hx] at hu; simp at hu
    · exact h0
   obtain ⟨b, off, e, _, hc⟩ := h.2 hn
   cases e
   have h2 := hc j u hu
   unfold Addr.add
   split
   · rename_i h3; rw [h3, Nat.add_zero] at h2; exact h2
   · exact h2
theorem Clone_Text (A : Option Addr) (c : Nat) (l : List ByteArray) (w : World) (s : SlF AnyB sone 1 w A l c) (hl : l.length ≤ 1048576) :
 Calls Tryz.prog 129 #[.slice A l.length c] w fun e w' => ∃ v, e = .returned v ∧ w'.ownsRow w.heap.size 9 1 v l.length (l.flatMap sone) ∧ Ext w w' := by
 obtain ⟨i0, hi, hz0, hz1, hz2⟩ := info_parts infS
 have SR := hU (srcL_reads (c := c) s.reads)
 have K0 := hU (Blk.new w 9 #[])
 have E0 := hU (Ext.new (Below.refl w.heap.size w) (.cells #[] 9))
 have OC := hU (show ∀ u ∈ l.flatMap sone, u.oneCell' = true from fun u hu => by
  obtain ⟨x, _, hx⟩ := List.mem_flatMap.1 hu
  simp only [sone, List.mem_cons, List.not_mem_nil, or_false] at hx
  rcases hx with rfl <;> rfl)
 cases A with
 | none =>
   have hn : l.length = 0 := by
    rcases Nat.eq_zero_or_pos l.length with h0 | h0
    · exact h0
    · obtain ⟨b, off, e, _⟩ := s.reads.2 h0; cases e
   have hx : l = [] := List.eq_nil_of_length_eq_zero hn
   have hc : c = c := rfl
   subst hx
   clear s hc hn
   have NE : ∀ W, Sem.run Tryz.prog (binOp BinOp.eql 29 (Value.slice none 0 c) (Value.slice none 0 0)) W = .ok (.bool true) W := fun W => by rfl
   go_enter Tryz.func129, Tryz.ntmps129
   go_wp2_with fail
   go_ret
   exact ⟨_, rfl, World.ownsRow_nil _ _ _ _, Below.refl _ _⟩
 | some a =>
   clear s
   obtain ⟨n, hn⟩ : ∃ n, n = l.length := ⟨_, rfl⟩
   rw [← hn] at SR hl
   rw [← hn]
   obtain ⟨X, hX⟩ : ∃ X, X = l.flatMap sone := ⟨_, rfl⟩
   rw [← hX] at SR OC
   rw [← hX]
   clear hn hX
   have NE : ∀ W, Sem.run Tryz.prog (binOp BinOp.eql 29 (Value.slice (some a) n c) (Value.slice none 0 0)) W = .ok (.bool false) W := fun W => by rfl
   go_enter Tryz.func129, Tryz.ntmps129
   go_wp2_with (at_builtin; (refine wpList_append_empty rfl _ _ 29 rfl w.heap.size w.heap.size 9 i0 (.string ⟨#[]⟩) 1 16 Tryz.underlying29 hi hz0 hz1 hz2 rfl (by decide) rfl K0.out (Nat.le_refl _) _ n X rfl (srcL_ext SR.out E0.out rfl) OC.out (by unfold maxLen; omega) (by omega) ?_))
   intro v' w1 ho h1
   have OO := hU ho; have EE := hU (E0.out.next h1)
   clear ho h1
   go_wp2_with fail
   go_ret
   exact ⟨_, rfl, OO.out, EE.out⟩
theorem wpList_store_list {P : Program} {ops : Array Oper} {rest : List Oper} {op : Oper} {a : Act} {w : World} {Q : Exit → Act → World → Prop} (hgd : op.guard = none) (ty : TypeId) (x y : Operand) (ho : op.op = .store ty x y) (hd : op.dst = none)
 (b o : Nat) (cells : List Value) (hx : a.eval x = .pointer (some ⟨b, o, none⟩)) (hy : a.eval y = .agg cells.toArray)
 (ht : w.there b o cells.length) (hi : (P.info? ty).map (·.size) = some cells.length) (h1 : cells.all (·.oneCell') = true)
 (h : wpList P ops Q rest a (w.setCells b o cells)) : wpList P ops Q (op :: rest) a w :=
 wpList_store_mid hgd ty x y ho b o cells.toArray hx hy (by simpa using ht) (by simpa using hi) (all_oneCell_toArray (List.all_eq_true.1 h1)) (by rw [hd]; exact h)
theorem wp_store_lst {P : Program} {op : Oper} {a : Act} {w : World} {K : Act → World → Prop} {Q : Exit → Act → World → Prop} (ty : TypeId) (x y : Operand) (ho : op.op = .store ty x y) (hd : op.dst = none)
 (b o : Nat) (cells : List Value) (hx : a.eval x = .pointer (some ⟨b, o, none⟩)) (hy : a.eval y = .agg cells.toArray)
 (ht : w.there b o cells.length) (hi : (P.info? ty).map (·.size) = some cells.length) (h1 : cells.all (·.oneCell') = true)
 (h : K a (w.setCells b o cells)) : op.wp P a w K Q := wp_store_mid ty x y ho b o cells.toArray hx hy (by simpa using ht) (by simpa using hi) (all_oneCell_toArray (List.all_eq_true.1 h1)) (by rw [hd]; exact h)
theorem wpList_load_want {P : Program} {ops : Array Oper} {rest : List Oper} {op : Oper} {a : Act} {w : World} {Q : Exit → Act → World → Prop} (hw : Region.wanted op (yielded ops a.tmps) = true) (ty : TypeId) (x : Operand) (ho : op.op = .load ty x)
 (b o : Nat) (hx : a.eval x = .pointer (some ⟨b, o, none⟩)) (cs : List Value) (d : TypeDesc) (hc : w.rangeAt b o cs)
 (hu : P.underlying ty = some d) (hd : d.isRow = true) (hi : (P.info? ty).map (·.size) = some cs.length)
 (h : wpList P ops Q rest (a.put op.dst (.agg cs.toArray)) w) : wpList P ops Q (op :: rest) a w :=
 wpList_step fun K hK => by rw [if_pos hw]; exact wp_load_mid ty x ho b o hx cs d hc hu hd hi (hK _ _ h)
end Go.Proofs.YtgeengkdgdjcjaaGreat
