/-
  HeadsOks; SealsB; TextsB; BrAns4; RightW; Recs: No condition.
-/
import Derived.Test.YthnpdoadmglipaaGreatFollowsB
import Derived.Test.YthnpdoadmglipaaGreatBunch
import Derived.Test.YthnpdoadmglipaaGreatSealP
import Derived.Test.YthnpdoadmglipaaGreatConvWrite
import Derived.Test.YthnpdoadmglipaaGreatRightP
import Derived.Test.YthnpdoadmglipaaGreatRets
import Derived.Test.YthnpdoadmglipaaGreatReopenR
import Derived.Test.YthnpdoadmglipaaGreatHeadRead
import Derived.WideKeyEntry
namespace Go.Proofs.YthnpdoadmglipaaGreat
set_option linter.unusedSimpArgs false
open Go.RowKit
set_option linter.unusedVariables false
theorem heads_cells {w : World} {b off c : Nat} {l : List HeadD} (hr : SlF AnyB HeadD.cells 5 w (some ⟨b, off, none⟩) l c) {k : Nat} {d : HeadD} (hd : l[k]? = some d) :
 w.cell? ⟨b, off + k * 5, none⟩ = some (.int .i64 d.number) ∧ w.cell? ⟨b, off + k * 5 + 1, none⟩ = some (.int .i64 d.size) ∧ w.cell? ⟨b, off + k * 5 + 2, none⟩ = some (.string d.root) ∧ w.cell? ⟨b, off + k * 5 + 3, none⟩ = some (.int .i64 d.taken) ∧ w.cell? ⟨b, off + k * 5 + 4, none⟩ = some (.string d.takenRoot) := by
 obtain ⟨b', off', e, hb, hc⟩ := Reads.at_ hr.reads (k := k) (List.getElem?_eq_some_iff.1 hd).1
 cases e
 exact ⟨hc 0 _ (flat_at _ 5 HeadD.cells_length l k 0 d hd (by omega)), hc 1 _ (flat_at _ 5 HeadD.cells_length l k 1 d hd (by omega)), hc 2 _ (flat_at _ 5 HeadD.cells_length l k 2 d hd (by omega)), hc 3 _ (flat_at _ 5 HeadD.cells_length l k 3 d hd (by omega)), hc 4 _ (flat_at _ 5 HeadD.cells_length l k 4 d hd (by omega))⟩
theorem headAt_zero {n : Int} {l : List HeadD} {k : Nat} {d : HeadD} (hd : l[k]? = some d) (h0 : k = 0) : headAt n l k = (headOk n d && (d.number == (k : Int))) := by
 subst h0; rw [headAt, hd]; simp
theorem headAt_next {n : Int} {l : List HeadD} {k j : Nat} {d e : HeadD} (hd : l[k]? = some d) (hj : k = j + 1) (he : l[j]? = some e) : headAt n l k = (headOk n d && (d.number == (k : Int)) && followsB n e d) := by
 subst hj; rw [headAt, hd]; simp [he]
theorem headAt_bad {n : Int} {l : List HeadD} {k : Nat} {d : HeadD} (hd : l[k]? = some d) (h : (headOk n d && (d.number == (k : Int))) = false) : headAt n l k = false := by
 rw [headAt, hd]; simp only; rw [h, Bool.false_and]
def partA (A : Option Addr) (c n size : Nat) : Option Addr := if c = n then A else A.map (·.add (n * size))
theorem reads_part {α : Type} {f : α → List Value} {size : Nat} {w : World} {B : Nat} {A : Option Addr} {l : List α} (hf : ∀ a, (f a).length = size) (h : ReadsL w B f size A l) {c n m : Nat} (hn : n ≤ m) (hm : m ≤ l.length) (hc : l.length ≤ c) :
 ReadsL w B f size (partA A c n size) ((l.drop n).take (m - n)) := by
 refine ⟨flat_len f size hf _, fun hpos => ?_⟩
 rw [List.length_take, List.length_drop] at hpos
 obtain ⟨b, off, e, hb, hcl⟩ := h.2 (by omega)
 subst e
 refine ⟨b, off + n * size, by rw [partA, if_neg (by omega)]; exact congrArg some (add_mk b off (n * size)), hb, fun j u hu => ?_⟩
 have e1 : l.flatMap f = (l.take n).flatMap f ++ (((l.drop n).take (m - n)).flatMap f ++ ((l.drop n).drop (m - n)).flatMap f) := by
  rw [← List.flatMap_append, List.take_append_drop, ← List.flatMap_append, List.take_append_drop]
 have e2 : ((l.take n).flatMap f).length = n * size := by rw [flat_len f size hf, List.length_take, Nat.min_eq_left (by omega)]
 have := hcl (n * size + j) u (by rw [e1, List.getElem?_append_right (by omega), e2, Nat.add_sub_cancel_left, List.getElem?_append_left (List.getElem?_eq_some_iff.1 hu).1]; exact hu)
 rw [Nat.add_assoc]; exact this
def sealsB (wd : Int) (L T : List ByteArray) (hs : List HeadD) : Bool := ((hs.headD hz).eqb (newH true wd)) && allTo (sealAt wd L T hs) hs.length
theorem run_from {P : Program} {t : TypeId} (A : Option Addr) (len c n size : Nat) (ht : P.underlying t = some (.slice (P.elem t))) (hs : ∀ W : World, (sizeOf (P.elem t)).run P W = .ok size W) (hn : n ≤ len) {x : Int} (hx : x = (n : Int)) (W : World) :
 (Instr.slice t (.slice A len c) (some (.int .i64 x)) none none).run P W = .ok (.slice (partA A c n size) (len - n) (c - n)) W := by
 subst hx
 rw [run_slice_l (P := P) W t A len c ht .i64 (n : Int) (by omega) (by omega), hs]
 simp [Result.andThen, sliced, partA]
structure TxS (w : World) (z q : Nat) (cs : Array Value) (wr : World) : Prop where
 z : Blk wr z 77 #[.slice none 0 0, .slice none 0 0, .slice none 0 0]
 q : Blk wr q 77 cs
 x : Ext w wr
theorem TxS.ext {w w1 w2 : World} {z q : Nat} {cs : Array Value} (h : TxS w z q cs w1) (he : Ext w1 w2) : TxS w z q cs w2 := ⟨h.z.ext he, h.q.ext he, h.x.next he⟩
theorem TxS.put {w w1 : World} {z q : Nat} {cs : Array Value} (h : TxS w z q cs w1) (hz : z < q) (hw : w.heap.size ≤ z) (j : Nat) (u : Value) : TxS w z q (cs.setIfInBounds j u) (w1.setCell ⟨q, j, none⟩ u) :=
 ⟨h.z.far (p := ⟨q, j, none⟩) (by show z ≠ q; omega) u, h.q.set_ j u, Below.setCell h.x (p := ⟨q, j, none⟩) (by show w.heap.size ≤ q; omega) u⟩
theorem hd_at {l : List HeadD} {w : World} {b off : Nat} {k : Nat} {d : HeadD} (hc : ∀ j u, (l.flatMap HeadD.cells)[k * 5 + j]? = some u → w.cell? ⟨b, off + k * 5 + j, none⟩ = some u) (hd : l[k]? = some d) :
 w.cell? ⟨b, off + k * 5, none⟩ = some (.int .i64 d.number) ∧ w.cell? ⟨b, off + k * 5 + 1, none⟩ = some (.int .i64 d.size) ∧ w.cell? ⟨b, off + k * 5 + 2, none⟩ = some (.string d.root) ∧ w.cell? ⟨b, off + k * 5 + 3, none⟩ = some (.int .i64 d.taken) ∧ w.cell? ⟨b, off + k * 5 + 4, none⟩ = some (.string d.takenRoot) :=
 ⟨hc 0 _ (flat_at _ 5 HeadD.cells_length l k 0 d hd (by omega)), hc 1 _ (flat_at _ 5 HeadD.cells_length l k 1 d hd (by omega)), hc 2 _ (flat_at _ 5 HeadD.cells_length l k 2 d hd (by omega)), hc 3 _ (flat_at _ 5 HeadD.cells_length l k 3 d hd (by omega)), hc 4 _ (flat_at _ 5 HeadD.cells_length l k 4 d hd (by omega))⟩
structure TxOk (b : BrokerD) : Prop where
 e : ∀ e ∈ b.log.entries, e.Ok
 r : ∀ r ∈ b.receipts, r.Ok
 h : 0 < b.heads.length
 n : BSz b
def BrAns4 (B : BrokerD) (W : List WriteD) (l c : Nat) (w : World) (e : Ending) (w' : World) : Prop :=
 ∃ ve vr vh v1 v2 vw, e = .returned (.tuple #[.agg (brkCs B ve vr vh v1 v2).toArray, vw, .int .i64 (l : Int), .int .i64 (c : Int)]) ∧ BRows w.heap.size w' B ve vr vh v1 v2 ∧ (∀ x, v1.ownBlock = some x → v2.ownBlock ≠ some x) ∧ w'.ownsRow w.heap.size 79 3 vw W.length (W.flatMap WriteD.cells) ∧ Ext w w'
def pbCode (b : BrokerD) (d : EntryD) : Nat := if brokerB b then adCode b.log.entries d else 1
def pbB (b : BrokerD) (d : EntryD) : BrokerD := if pbCode b d = 0 then pbB0 b d else noB
def pbW (b : BrokerD) (d : EntryD) : List WriteD := if pbCode b d = 0 then [writeW b 0 (leafText (pbNew b d))] else []
def pbL (b : BrokerD) (d : EntryD) : Nat := if pbCode b d = 0 then b.log.entries.length else 0
theorem pb_bad {b : BrokerD} {d : EntryD} {k : Nat} (h : pbCode b d = k) (h0 : k ≠ 0) : pbB b d = noB ∧ pbW b d = [] ∧ pbL b d = 0 := by
 have : ¬ pbCode b d = 0 := by omega
 exact ⟨by rw [pbB, if_neg this], by rw [pbW, if_neg this], by rw [pbL, if_neg this]⟩
theorem pb_good {b : BrokerD} {d : EntryD} (h : pbCode b d = 0) : pbB b d = pbB0 b d ∧ pbW b d = [writeW b 0 (leafText (pbNew b d))] ∧ pbL b d = b.log.entries.length := ⟨by rw [pbB, if_pos h], by rw [pbW, if_pos h], by rw [pbL, if_pos h]⟩
theorem pb_end {b : BrokerD} {d : EntryD} {k : Nat} {w w' : World} {e : Ending} {vw : Value} (h : pbCode b d = k) (h0 : k ≠ 0) (he : e = .returned (.tuple #[.agg #[.int .i64 0, .slice none 0 0, .slice none 0 0, .slice none 0 0, .int .i64 0, .slice none 0 0, .int .i64 0, .slice none 0 0, .int .i64 0, .int .i64 0, .string ⟨#[]⟩, .int .i64 0, .string ⟨#[]⟩], vw, .int .i64 0, .int .i64 (k : Int)])) (ho : w'.ownsRow w.heap.size 79 3 vw 0 []) (hx : Ext w w') : BrAns4 (pbB b d) (pbW b d) (pbL b d) (pbCode b d) w e w' := by
 rw [(pb_bad h h0).1, (pb_bad h h0).2.1, (pb_bad h h0).2.2, h]
 exact ⟨_, _, _, _, _, vw, he, BRows.zero _ _, (fun x h => by cases h), ho, hx⟩
theorem BVal.but {K g : Nat} {B : BrokerD} {L : List Value} {w w' : World} (h : BVal K B L w) (k : ExtBut g w w') (hg : g < K) : BVal K B L w' := by
 obtain ⟨X0, x0, X1, x1, X2, x2, X3, x3, X4, x4, h1, h2, h3⟩ := h
 exact ⟨X0, x0, X1, x1, X2, x2, X3, x3, X4, x4, h1, ⟨ownsRow_but h2.e k hg, ownsRow_but h2.r k hg, ownsRow_but h2.h k hg, ownsRow_but h2.p k hg, ownsRow_but h2.q k hg⟩, h3⟩
theorem BVal.low {K K' : Nat} {B : BrokerD} {L : List Value} {w : World} (h : BVal K B L w) (hK : K' ≤ K) : BVal K' B L w := by
 obtain ⟨X0, x0, X1, x1, X2, x2, X3, x3, X4, x4, h1, h2, h3⟩ := h
 exact ⟨X0, x0, X1, x1, X2, x2, X3, x3, X4, x4, h1, ⟨ownsRow_base h2.e hK, ownsRow_base h2.r hK, ownsRow_base h2.h hK, ownsRow_base h2.p hK, ownsRow_base h2.q hK⟩, h3⟩
theorem BVal.far {K G : Nat} {B : BrokerD} {L : List Value} {w : World} (h : BVal K B L w) (hg : G < K) (vs : List Value) (o : Nat) : BVal K B L (w.setCells G o vs) := by
 obtain ⟨X0, x0, X1, x1, X2, x2, X3, x3, X4, x4, h1, h2, h3⟩ := h
 exact ⟨X0, x0, X1, x1, X2, x2, X3, x3, X4, x4, h1, ⟨row_far h2.e hg (Nat.le_refl _) vs o, row_far h2.r hg (Nat.le_refl _) vs o, row_far h2.h hg (Nat.le_refl _) vs o, row_far h2.p hg (Nat.le_refl _) vs o, row_far h2.q hg (Nat.le_refl _) vs o⟩, h3⟩
theorem BVal.putB {K G : Nat} {B : BrokerD} {L : List Value} {w : World} {cs : Array Value} (h : BVal K B L w) (hb : Blk w G 37 cs) (vs : List Value) (o : Nat) : BVal K B L (w.setCells G o vs) := by
 obtain ⟨X0, x0, X1, x1, X2, x2, X3, x3, X4, x4, h1, h2, h3⟩ := h
 have f : ∀ {e s n : Nat} {v : Value} {xs : List Value}, 37 ≠ e → w.ownsRow K e s v n xs → (w.setCells G o vs).ownsRow K e s v n xs := fun he h => (Frm.setCells (Frm.refl (fun b => b = G) w) (g := G) (fun _ => rfl) vs o).own h (fun y hy => own_ne h hb he y hy)
 exact ⟨X0, x0, X1, x1, X2, x2, X3, x3, X4, x4, h1, ⟨f (by decide) h2.e, f (by decide) h2.r, f (by decide) h2.h, f (by decide) h2.p, f (by decide) h2.q⟩, h3⟩
theorem lit_ok {k : Int} (h0 : 0 ≤ k) (h1 : k ≤ 1000000000) : (Lit.int .i64 k).wf = true := by
 simp [Lit.wf, IntKind.min, IntKind.max, IntKind.signed, IntKind.bits]; omega
theorem entry_right {e : EntryD} (h : entryOk e = true) : e.Ok := by
 have := entryOk_bounds h
 exact ⟨by unfold maxLen; omega, lit_ok this.2.1 (by omega), lit_ok this.2.2.2.1 (by omega), by unfold maxLen; omega, by unfold maxLen; omega⟩
theorem receipt_right {r : ReceiptD} (h : receiptOk r = true) : r.Ok := by
 simp only [receiptOk, Bool.and_eq_true] at h
 have s1 := nameOk_size h.1.1
 have s2 := nameOk_size h.1.2
 have s3 := inR_true h.2
 exact ⟨by unfold maxLen; omega, by unfold maxLen; omega, lit_ok s3.1 (by omega)⟩
theorem head_right {n : Int} {h : HeadD} (hk : headOk n h = true) : h.Ok := by
 have := headOk_bounds hk
 exact ⟨lit_ok (by omega) (by omega), lit_ok (by omega) (by omega), by unfold maxLen; omega, lit_ok (by omega) (by omega), by unfold maxLen; omega⟩
theorem tx_right {b : BrokerD} (hB : brokerB b = true) : TxOk b := by
 obtain ⟨hw, h0, hE, h1, hR, p0, h2, hH⟩ := broker_parts hB
 obtain ⟨n1, n2, sf⟩ := sl_facts hB
 have e1 := pc_le (((slL b).take n1).length); have e2 := pc_le (((slT b).take n2).length)
 have q1 := sf.e; have q2 := sf.r
 refine ⟨fun e he => entry_right (hE e he), fun r hr => receipt_right (hR r hr), p0, ⟨by omega, by omega, by omega, ?_, ?_⟩⟩
 · rw [sf.z]
   show (peaksOf (ndB b.width) ((slL b).take n1)).reverse.length ≤ 1048576
   rw [List.length_reverse, peaks_len]
   rw [List.length_take] at e1 ⊢; omega
 · rw [sf.z]
   show (peaksOf (ndB b.width) ((slT b).take n2)).reverse.length ≤ 1048576
   rw [List.length_reverse, peaks_len]
   rw [List.length_take] at e2 ⊢; omega
theorem val_of {K : Nat} {B : BrokerD} {ve vr vh v1 v2 : Value} {w : World} (h : BRows K w B ve vr vh v1 v2) (ha : ∀ x, v1.ownBlock = some x → v2.ownBlock ≠ some x) : BVal K B (brkCs B ve vr vh v1 v2) w := by
 obtain ⟨X0, x0, rfl, _⟩ := ownsRow_form h.e
 obtain ⟨X1, x1, rfl, _⟩ := ownsRow_form h.r
 obtain ⟨X2, x2, rfl, _⟩ := ownsRow_form h.h
 obtain ⟨X3, x3, rfl, _⟩ := ownsRow_form h.p
 obtain ⟨X4, x4, rfl, _⟩ := ownsRow_form h.q
 exact ⟨X0, x0, X1, x1, X2, x2, X3, x3, X4, x4, rfl, h, ha⟩
theorem right_pub2 {b : BrokerD} {d : EntryD} (hB : brokerB b = true) (h : pbCode b d = 0) : brokerB (pbB b d) = true := by
 rw [pbCode, hB, if_pos rfl] at h
 have h2 : pbCode b d = 0 := by rw [pbCode, hB, if_pos rfl]; exact h
 rw [(pb_good h2).1]; exact right_pub hB h
theorem newV {n : Int} {q K : Nat} {w : World} (hq : K ≤ q) (kq : Blk w q 33 (newH true n).cells.toArray) : BVal K (newBr n) (brkV (newBr n) none 0 none 0 (some ⟨q, 0, none⟩) 1 none 0 none 0) w := by
 refine ⟨none, 0, none, 0, some ⟨q, 0, none⟩, 1, none, 0, none, 0, rfl, ⟨World.ownsRow_nil _ _ _ _, World.ownsRow_nil _ _ _ _, ?_, World.ownsRow_nil _ _ _ _, World.ownsRow_nil _ _ _ _⟩, fun x h => by cases h⟩
 have := Blk.ownsRow (xs := (newH true n).cells) kq 1 5 K hq rfl (by unfold maxLen; omega)
 simpa [newBr] using this
end Go.Proofs.YthnpdoadmglipaaGreat
namespace Go.Proofs.YthnpdoadmglipaaGreat
set_option maxRecDepth 100000
set_option linter.unusedSimpArgs false
open Go.RowKit Go.WideMaps Go.Maps
set_option linter.unusedVariables false
theorem recLaw : KeyLaw Tryz.prog 92 := deep_law_laid (by kernel_rfl) (m := 2) (by omega) (of_decide_eq_true (by kernel_rfl)) (by kernel_rfl) (by rw [Tryz.underlying92])
theorem intZero (w : World) : (zeroValue 3).run Tryz.prog w = .ok (.int .i64 0) w := by kernel_rfl
theorem MapAtR.entry {w : World} {B n q : Nat} {f : ReceiptD → Option Nat} (h : MapAtR w B n f) (s : ReceiptD) (hs : s.Ok) (hn : n < maxLen) (hq : q ≤ 1099511627776) :
 ∃ v0 st w1, (Instr.mapEntry 137 (.map (some B)) (.agg #[.string s.reader, .string s.topic, .int .i64 s.index])).run Tryz.prog w = .ok (.tuple #[v0, .int .i64 st]) w1 ∧
  ∃ w2, (Instr.entryStore 137 (.map (some B)) (.int .i64 st) (.int .i64 (q : Int))).run Tryz.prog w1 = .ok () w2 ∧ MapAtR w2 B (n + 1) (rput f s q) ∧ w.grownBy w2 (some B) := by
 obtain ⟨D, h, k⟩ := h
 have wf : (Lit.int .i64 (q : Int)).wf = true := WalkArith.wf_i64 (by omega)
 obtain ⟨w', hrun, r1, r2⟩ := h.update recKeyed Tryz.underlying137 hn (rkey_of s hs) (plainElem_int Tryz.underlying3 wf)
 have h0 := h
 obtain ⟨es, clock, hb, F, _, _⟩ := h0
 obtain ⟨v0, st, es1, clock1, e1, _, e2⟩ := WideElems.entry_then_store recLaw Tryz.underlying137 (z := .int .i64 0) intZero hb F (rkey_of s hs)
 obtain ⟨es', clock', e3, e4⟩ := e2 (ChangeMaps.setBlock w B (.map es1 clock1)) (.int .i64 (q : Int)) (ChangeMaps.heap_setBlock_same hb _)
 rw [hrun] at e4
 have e5 : w' = ChangeMaps.setBlock w B (.map es' clock') := by cases e4; rfl
 refine ⟨v0, (st : Int), _, e1, w', ?_, MapAtR.put hs k h.isMap r1, r2⟩
 have e6 : ChangeMaps.setBlock (ChangeMaps.setBlock w B (.map es1 clock1)) B (.map es' clock') = ChangeMaps.setBlock w B (.map es' clock') := by
  simp [ChangeMaps.setBlock]
 rw [e6, ← e5] at e3
 exact e3
theorem twoH {P : Program} {md : Region.Mode} {ops : Array Oper} {Q : Exit → Act → World → Prop} {S : World → Prop} (i j : Nat) {oi oj : Oper} {fuel : Nat} {listed : Array Bool} {a : Act} {w : World} (d e : Option Tmp) (hr : Region.ready md ops listed = [i, j])
 (hi : ops[i]? = some oi) (hg : oi.guard = none) (hd : oi.dst = d) (hj : ops[j]? = some oj) (hgj : oj.guard = none) (hdj : oj.dst = e)
 (h : ∀ K' : Act → World → Prop, Shut (∀ a' w', (∃ v, a' = a.put d v) → S w' → (S w' → wpAnyH P md ops Q S fuel (listed.setIfInBounds i true) a' w') → K' a' w') → StepG (if Region.wanted oi (yielded ops a.tmps) = true then Oper.wp P oi a w K' Q else K' (a.put oi.dst undef) w))
 (h' : ∀ K' : Act → World → Prop, Shut (∀ a' w', (∃ v, a' = a.put e v) → S w' → (S w' → wpAnyH P md ops Q S fuel (listed.setIfInBounds j true) a' w') → K' a' w') → StepG (if Region.wanted oj (yielded ops a.tmps) = true then Oper.wp P oj a w K' Q else K' (a.put oj.dst undef) w)) : wpAnyH P md ops Q S (fuel + 1) listed a w := by
 refine wpAnyH_all hr (by simp) fun x hx => ?_
 rcases List.mem_cons.1 hx with rfl | hx
 · unfold wpOp
   simp only [hi]
   have hw : Region.wanted oi (yielded ops a.tmps) = true := by simp [Region.wanted, hg]
   rw [if_pos hw]
   have h2 := h (fun a' w' => S w' ∧ wpAnyH P md ops Q S fuel (listed.setIfInBounds x true) a' w') fun a' w' _ hS hW => ⟨hS, hW hS⟩
   replace h2 := h2.out
   rw [if_pos hw] at h2
   exact .inl h2
 · obtain rfl : x = j := by simpa using hx
   unfold wpOp
   simp only [hj]
   have hw : Region.wanted oj (yielded ops a.tmps) = true := by simp [Region.wanted, hgj]
   rw [if_pos hw]
   have h2 := h' (fun a' w' => S w' ∧ wpAnyH P md ops Q S fuel (listed.setIfInBounds x true) a' w') fun a' w' _ hS hW => ⟨hS, hW hS⟩
   replace h2 := h2.out
   rw [if_pos hw] at h2
   exact .inl h2
theorem MapAtR.drew {w : World} {B n : Nat} {f : ReceiptD → Option Nat} (h : MapAtR w B n f) : MapAtR w.drew B n f := h
end Go.Proofs.YthnpdoadmglipaaGreat
