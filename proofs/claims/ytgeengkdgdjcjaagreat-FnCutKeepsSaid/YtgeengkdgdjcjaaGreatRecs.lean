/-
  BrAns4; RightW; Recs: No condition.
-/
import Derived.Test.YtgeengkdgdjcjaaGreatSealP
import Derived.Test.YtgeengkdgdjcjaaGreatRightP
import Derived.Test.YtgeengkdgdjcjaaGreatRets
import Derived.Test.YtgeengkdgdjcjaaGreatTextsB
import Derived.Test.YtgeengkdgdjcjaaGreatReopenP
import Derived.Test.YtgeengkdgdjcjaaGreatHashes
import Derived.WideKeyEntry
namespace Go.Proofs.YtgeengkdgdjcjaaGreat
set_option linter.unusedSimpArgs false
open Go.RowKit
set_option linter.unusedVariables false
def BrAns4 (B : BrokerD) (W : List WriteD) (l c : Nat) (w : World) (e : Ending) (w' : World) : Prop :=
 ∃ ve vr vh v1 v2 vw, e = .returned (.tuple #[.agg (brkCs B ve vr vh v1 v2).toArray, vw, .int .i64 (l : Int), .int .i64 (c : Int)]) ∧ BRows w.heap.size w' B ve vr vh v1 v2 ∧ (∀ x, v1.ownBlock = some x → v2.ownBlock ≠ some x) ∧ w'.ownsRow w.heap.size 63 3 vw W.length (W.flatMap WriteD.cells) ∧ Ext w w'
def pbCode (b : BrokerD) (d : EntryD) : Nat := if brokerB b then adCode b.log.entries d else 1
def pbB (b : BrokerD) (d : EntryD) : BrokerD := if pbCode b d = 0 then pbB0 b d else noB
def pbW (b : BrokerD) (d : EntryD) : List WriteD := if pbCode b d = 0 then [writeW b 0 (leafText (pbNew b d))] else []
def pbL (b : BrokerD) (d : EntryD) : Nat := if pbCode b d = 0 then b.log.entries.length else 0
theorem pb_bad {b : BrokerD} {d : EntryD} {k : Nat} (h : pbCode b d = k) (h0 : k ≠ 0) : pbB b d = noB ∧ pbW b d = [] ∧ pbL b d = 0 := by
 have : ¬ pbCode b d = 0 := by omega
 exact ⟨by rw [pbB, if_neg this], by rw [pbW, if_neg this], by rw [pbL, if_neg this]⟩
theorem pb_good {b : BrokerD} {d : EntryD} (h : pbCode b d = 0) : pbB b d = pbB0 b d ∧ pbW b d = [writeW b 0 (leafText (pbNew b d))] ∧ pbL b d = b.log.entries.length := ⟨by rw [pbB, if_pos h], by rw [pbW, if_pos h], by rw [pbL, if_pos h]⟩
theorem pb_end {b : BrokerD} {d : EntryD} {k : Nat} {w w' : World} {e : Ending} {vw : Value} (h : pbCode b d = k) (h0 : k ≠ 0) (he : e = .returned (.tuple #[.agg #[.int .i64 0, .slice none 0 0, .slice none 0 0, .slice none 0 0, .int .i64 0, .slice none 0 0, .int .i64 0, .slice none 0 0, .int .i64 0, .int .i64 0, .string ⟨#[]⟩, .int .i64 0, .string ⟨#[]⟩], vw, .int .i64 0, .int .i64 (k : Int)])) (ho : w'.ownsRow w.heap.size 63 3 vw 0 []) (hx : Ext w w') : BrAns4 (pbB b d) (pbW b d) (pbL b d) (pbCode b d) w e w' := by
 rw [(pb_bad h h0).1, (pb_bad h h0).2.1, (pb_bad h h0).2.2, h]
 exact ⟨_, _, _, _, _, vw, he, BRows.zero _ _, (fun x h => by cases h), ho, hx⟩
theorem BVal.but {K g : Nat} {B : BrokerD} {L : List Value} {w w' : World} (h : BVal K B L w) (k : ExtBut g w w') (hg : g < K) : BVal K B L w' := by
 obtain ⟨X0, x0, X1, x1, X2, x2, X3, x3, X4, x4, h1, h2, h3⟩ := h
 exact ⟨X0, x0, X1, x1, X2, x2, X3, x3, X4, x4, h1, ⟨ownsRow_but h2.e k hg, ownsRow_but h2.r k hg, ownsRow_but h2.h k hg, ownsRow_but h2.p k hg, ownsRow_but h2.q k hg⟩, h3⟩
theorem BVal.low {K K' : Nat} {B : BrokerD} {L : List Value} {w : World} (h : BVal K B L w) (hK : K' ≤ K) : BVal K' B L w := by
 obtain ⟨X0, x0, X1, x1, X2, x2, X3, x3, X4, x4, h1, h2, h3⟩ := h
 exact ⟨X0, x0, X1, x1, X2, x2, X3, x3, X4, x4, h1, ⟨ownsRow_base h2.e hK, ownsRow_base h2.r hK, ownsRow_base h2.h hK, ownsRow_base h2.p hK, ownsRow_base h2.q hK⟩, h3⟩
theorem BVal.far {K G : Nat} {B : BrokerD} {L : List Value} {w : World} (h : BVal K B L w) (hg : G < K) (vs : List Value) (o : Nat) : BVal K B L (w.setCells G o vs) := by
 obtain ⟨X0, x0, X1, x1, X2, x2, X3, x3, X4, x4, h1, h2, h3⟩ := h
 exact ⟨X0, x0, X1, x1, X2, x2, X3, x3, X4, x4, h1, ⟨row_far h2.e hg (Nat.le_refl _) vs o, row_far h2.r hg (Nat.le_refl _) vs o, row_far h2.h hg (Nat.le_refl _) vs o, row_far h2.p hg (Nat.le_refl _) vs o, row_far h2.q hg (Nat.le_refl _) vs o⟩, h3⟩
theorem BVal.putB {K G : Nat} {B : BrokerD} {L : List Value} {w : World} {cs : Array Value} (h : BVal K B L w) (hb : Blk w G 37 cs) (vs : List Value) (o : Nat) : BVal K B L (w.setCells G o vs) := by
 obtain ⟨X0, x0, X1, x1, X2, x2, X3, x3, X4, x4, h1, h2, h3⟩ := h
 have f : ∀ {e s n : Nat} {v : Value} {xs : List Value}, 37 ≠ e → w.ownsRow K e s v n xs → (w.setCells G o vs).ownsRow K e s v n xs := fun he h => (Frm.setCells (Frm.refl (fun b => b = G) w) (g := G) (fun _ => rfl) vs o).own h (fun y hy => own_ne h hb he y hy)
 exact ⟨X0, x0, X1, x1, X2, x2, X3, x3, X4, x4, h1, ⟨f (by decide) h2.e, f (by decide) h2.r, f (by decide) h2.h, f (by decide) h2.p, f (by decide) h2.q⟩, h3⟩
theorem lit_ok {k : Int} (h0 : 0 ≤ k) (h1 : k ≤ 1000000000) : (Lit.int .i64 k).wf = true := by
 simp [Lit.wf, IntKind.min, IntKind.max, IntKind.signed, IntKind.bits]; omega
theorem entry_right {e : EntryD} (h : entryOk e = true) : e.Ok := by
 have := entryOk_bounds h
 exact ⟨by unfold maxLen; omega, lit_ok this.2.1 (by omega), lit_ok this.2.2.2.1 (by omega), by unfold maxLen; omega, by unfold maxLen; omega⟩
theorem receipt_right {r : ReceiptD} (h : receiptOk r = true) : r.Ok := by
 simp only [receiptOk, Bool.and_eq_true] at h
 have s1 := nameOk_size h.1.1
 have s2 := nameOk_size h.1.2
 have s3 := inR_true h.2
 exact ⟨by unfold maxLen; omega, by unfold maxLen; omega, lit_ok s3.1 (by omega)⟩
theorem tx_right {b : BrokerD} (hB : brokerB b = true) : TxOk b := by
 obtain ⟨hw, h0, hE, h1, hR, p0, h2, hH⟩ := broker_parts hB
 obtain ⟨n1, n2, sf⟩ := sl_facts hB
 have e1 := pc_le (((slL b).take n1).length); have e2 := pc_le (((slT b).take n2).length)
 have q1 := sf.e; have q2 := sf.r
 refine ⟨fun e he => entry_right (hE e he), fun r hr => receipt_right (hR r hr), p0, ⟨by omega, by omega, by omega, ?_, ?_⟩⟩
 · rw [sf.z]
   show (peaksOf (ndB b.width) ((slL b).take n1)).reverse.length ≤ 1048576
   rw [List.length_reverse, peaks_len]
   rw [List.length_take] at e1 ⊢; omega
 · rw [sf.z]
   show (peaksOf (ndB b.width) ((slT b).take n2)).reverse.length ≤ 1048576
   rw [List.length_reverse, peaks_len]
   rw [List.length_take] at e2 ⊢; omega
theorem val_of {K : Nat} {B : BrokerD} {ve vr vh v1 v2 : Value} {w : World} (h : BRows K w B ve vr vh v1 v2) (ha : ∀ x, v1.ownBlock = some x → v2.ownBlock ≠ some x) : BVal K B (brkCs B ve vr vh v1 v2) w := by
 obtain ⟨X0, x0, rfl, _⟩ := ownsRow_form h.e
 obtain ⟨X1, x1, rfl, _⟩ := ownsRow_form h.r
 obtain ⟨X2, x2, rfl, _⟩ := ownsRow_form h.h
 obtain ⟨X3, x3, rfl, _⟩ := ownsRow_form h.p
 obtain ⟨X4, x4, rfl, _⟩ := ownsRow_form h.q
 exact ⟨X0, x0, X1, x1, X2, x2, X3, x3, X4, x4, rfl, h, ha⟩
theorem right_pub2 {b : BrokerD} {d : EntryD} (hB : brokerB b = true) (h : pbCode b d = 0) : brokerB (pbB b d) = true := by
 rw [pbCode, hB, if_pos rfl] at h
 have h2 : pbCode b d = 0 := by rw [pbCode, hB, if_pos rfl]; exact h
 rw [(pb_good h2).1]; exact right_pub hB h
theorem newV {n : Int} {q K : Nat} {w : World} (hq : K ≤ q) (kq : Blk w q 33 (newH true n).cells.toArray) : BVal K (newBr n) (brkV (newBr n) none 0 none 0 (some ⟨q, 0, none⟩) 1 none 0 none 0) w := by
 refine ⟨none, 0, none, 0, some ⟨q, 0, none⟩, 1, none, 0, none, 0, rfl, ⟨World.ownsRow_nil _ _ _ _, World.ownsRow_nil _ _ _ _, ?_, World.ownsRow_nil _ _ _ _, World.ownsRow_nil _ _ _ _⟩, fun x h => by cases h⟩
 have := Blk.ownsRow (xs := (newH true n).cells) kq 1 5 K hq rfl (by unfold maxLen; omega)
 simpa [newBr] using this
end Go.Proofs.YtgeengkdgdjcjaaGreat
namespace Go.Proofs.YtgeengkdgdjcjaaGreat
set_option maxHeartbeats 2000000
set_option maxRecDepth 100000
set_option linter.unusedSimpArgs false
open Go.RowKit Go.WideMaps Go.Maps
set_option linter.unusedVariables false
theorem recAt_eq {l : List ReceiptD} {k : Nat} {d : ReceiptD} (hd : l[k]? = some d) : recAt l k = (receiptOk d && !((l.take k).any fun x => x.eqb d)) := by
 rw [recAt, hd]
 simp only
 congr 1
 cases h : (l.take k).any fun x => x.eqb d
 · have hn : ∀ y ∈ l.take k, (fun x : ReceiptD => x.eqb d) y = false := by
    intro y hy
    have := List.any_eq_false.1 h y hy
    simpa using this
   rw [idxB_at (p := fun x : ReceiptD => x.eqb d) hd (ReceiptD.eqb_self d) hn]; simp
 · obtain ⟨x, hx, hp⟩ := List.any_eq_true.1 h
   simp only [Bool.not_true, beq_eq_false_iff_ne, ne_eq]
   intro e
   obtain ⟨_, _, _, h3⟩ := idxB_spec e
   have := h3 x hx
   rw [hp] at this; cases this
def seenF (l : List ReceiptD) (t : ReceiptD) : Option Nat := if l.any (fun x => x.eqb t) then some 1 else none
theorem seenF_nil : seenF [] = fun _ => none := rfl
theorem seenF_get (l : List ReceiptD) (t : ReceiptD) : (seenF l t).getD 0 = if l.any (fun x => x.eqb t) then 1 else 0 := by
 unfold seenF; split <;> rfl
theorem seenF_next {l : List ReceiptD} {k : Nat} {d : ReceiptD} (hd : l[k]? = some d) : rput (seenF (l.take k)) d 1 = seenF (l.take (k + 1)) := by
 obtain ⟨hk, rfl⟩ := List.getElem?_eq_some_iff.1 hd
 funext t
 unfold rput seenF
 rw [List.take_succ_eq_append_getElem hk, List.any_append]
 simp only [List.any_cons, List.any_nil, Bool.or_false]
 cases e : t.eqb l[k]
 · have : l[k].eqb t = false := by
    cases e2 : l[k].eqb t
    · rfl
    · rw [(ReceiptD.eqb_iff _ _).1 e2, ReceiptD.eqb_self] at e; cases e
   rw [this]; simp
 · have : l[k].eqb t = true := by rw [(ReceiptD.eqb_iff _ _).1 e, ReceiptD.eqb_self]
   rw [this]; simp
theorem recLaw : KeyLaw Tryz.prog 58 := deep_law_laid (by kernel_rfl) (m := 2) (by omega) (of_decide_eq_true (by kernel_rfl)) (by kernel_rfl) (by rw [Tryz.underlying58])
theorem intZero (w : World) : (zeroValue 3).run Tryz.prog w = .ok (.int .i64 0) w := by kernel_rfl
theorem MapAtR.entry {w : World} {B n q : Nat} {f : ReceiptD → Option Nat} (h : MapAtR w B n f) (s : ReceiptD) (hs : s.Ok) (hn : n < maxLen) (hq : q ≤ 1099511627776) :
 ∃ v0 st w1, (Instr.mapEntry 178 (.map (some B)) (.agg #[.string s.reader, .string s.topic, .int .i64 s.index])).run Tryz.prog w = .ok (.tuple #[v0, .int .i64 st]) w1 ∧
  ∃ w2, (Instr.entryStore 178 (.map (some B)) (.int .i64 st) (.int .i64 (q : Int))).run Tryz.prog w1 = .ok () w2 ∧ MapAtR w2 B (n + 1) (rput f s q) ∧ w.grownBy w2 (some B) := by
 obtain ⟨D, h, k⟩ := h
 have wf : (Lit.int .i64 (q : Int)).wf = true := WalkArith.wf_i64 (by omega)
 obtain ⟨w', hrun, r1, r2⟩ := h.update recKeyed Tryz.underlying178 hn (rkey_of s hs) (plainElem_int Tryz.underlying3 wf)
 have h0 := h
 obtain ⟨es, clock, hb, F, _, _⟩ := h0
 obtain ⟨v0, st, es1, clock1, e1, _, e2⟩ := WideElems.entry_then_store recLaw Tryz.underlying178 (z := .int .i64 0) intZero hb F (rkey_of s hs)
 obtain ⟨es', clock', e3, e4⟩ := e2 (ChangeMaps.setBlock w B (.map es1 clock1)) (.int .i64 (q : Int)) (ChangeMaps.heap_setBlock_same hb _)
 rw [hrun] at e4
 have e5 : w' = ChangeMaps.setBlock w B (.map es' clock') := by cases e4; rfl
 refine ⟨v0, (st : Int), _, e1, w', ?_, MapAtR.put hs k h.isMap r1, r2⟩
 have e6 : ChangeMaps.setBlock (ChangeMaps.setBlock w B (.map es1 clock1)) B (.map es' clock') = ChangeMaps.setBlock w B (.map es' clock') := by
  simp [ChangeMaps.setBlock]
 rw [e6, ← e5] at e3
 exact e3
theorem MapAtR.entry1 {w w1 : World} {B n : Nat} {f : ReceiptD → Option Nat} {v : Value} (h : MapAtR w B n f) (s : ReceiptD) (hs : s.Ok) (hn : n < maxLen) (hf : (f s).getD 0 = 0)
 (hrun : (Instr.mapEntry 178 (.map (some B)) (.agg #[.string s.reader, .string s.topic, .int .i64 s.index])).run Tryz.prog w = .ok v w1) :
 (Instr.lookup 178 (.map (some B)) (.agg #[.string s.reader, .string s.topic, .int .i64 s.index]) false).run Tryz.prog w1 = .ok (.int .i64 0) w1 := by
 have hh := h
 obtain ⟨D, h, k⟩ := h
 obtain ⟨w', hup, r1, r2⟩ := h.update recKeyed Tryz.underlying178 hn (rkey_of s hs) (plainElem_int Tryz.underlying3 (a := 0) (by decide))
 have hM := h.isMap
 have h0 := h
 obtain ⟨es, clock, hb, F, _, _⟩ := h0
 have hkey := rkey_of s hs
 rcases recLaw.find w hkey es.toList F.keys with ⟨h1, h2⟩ | ⟨j, e0, h1, h2, h3⟩
 · have e1 : (Instr.mapEntry 178 (.map (some B)) (rval s)).run Tryz.prog w = .ok (.tuple #[.int .i64 0, goInt clock]) (ChangeMaps.setBlock w B (.map (es.push ⟨rval s, .int .i64 0, clock⟩) (clock + 1))) := by
    simp [Instr.mapEntry, run_underlying Tryz.underlying178, MapKept.run_getObj_map hb, recLaw.check w false hkey, h1, intZero, MapKept.run_setObj_map _ hb, Result.andThen, ChangeMaps.setBlock]
   have e2 : (Instr.mapUpdate 178 (.map (some B)) (rval s) (.int .i64 0)).run Tryz.prog w = .ok () (ChangeMaps.setBlock w B (.map (es.push ⟨rval s, .int .i64 0, clock⟩) (clock + 1))) := by
    simp [Instr.mapUpdate, run_underlying Tryz.underlying178, MapKept.run_getObj_map hb, recLaw.check w false hkey, h1, MapKept.run_setObj_map _ hb, Result.andThen, ChangeMaps.setBlock]
   have a1 : w1 = ChangeMaps.setBlock w B (.map (es.push ⟨rval s, .int .i64 0, clock⟩) (clock + 1)) := by
    rw [show (.agg #[.string s.reader, .string s.topic, .int .i64 s.index] : Value) = rval s from rfl, e1] at hrun
    cases hrun; rfl
   have a2 : w' = w1 := by rw [e2] at hup; rw [a1]; cases hup; rfl
   subst a2
   have M := MapAtR.put (m := 0) hs k hM r1
   have := M.look1 s hs
   simpa [rput, ReceiptD.eqb_self] using this
 · have hj : es[j]? = some e0 := by simpa using h2
   have e1 : (Instr.mapEntry 178 (.map (some B)) (rval s)).run Tryz.prog w = .ok (.tuple #[e0.val, goInt e0.born]) w := by
    have hsame : es.modify j (fun e => { e with key := rval s }) = es := by
     apply Array.ext'
     rw [Array.toList_modify, ChangeMaps.modify_eq_set _ _ _ _ h2]
     have : ({ e0 with key := rval s } : MapEntry) = e0 := by rw [← h3]
     rw [this]
     exact WideElems.set_self _ _ _ h2
    have hself : ({ w with heap := w.heap.setIfInBounds B (.map es clock) } : World) = w := by
     have : w.heap.setIfInBounds B (.map es clock) = w.heap := by
      apply Array.ext_getElem?
      intro i
      rw [Array.getElem?_setIfInBounds]
      split
      · rename_i e; subst e; split
        · exact hb.symm
        · rename_i hlt; rw [Array.getElem?_eq_none (by omega)]
      · rfl
     rw [this]
    simp [Instr.mapEntry, run_underlying Tryz.underlying178, MapKept.run_getObj_map hb, recLaw.check w false hkey, h1, hj, h3, recLaw.stays w hkey, hsame, MapKept.run_setObj_map _ hb, Result.andThen, hself]
   have a1 : w1 = w := by
    rw [show (.agg #[.string s.reader, .string s.topic, .int .i64 s.index] : Value) = rval s from rfl, e1] at hrun
    cases hrun; rfl
   subst a1
   have := hh.look1 s hs
   rw [hf] at this
   exact this
theorem twoH {P : Program} {md : Region.Mode} {ops : Array Oper} {Q : Exit → Act → World → Prop} {S : World → Prop} (i j : Nat) {oi oj : Oper} {fuel : Nat} {listed : Array Bool} {a : Act} {w : World} (d e : Option Tmp) (hr : Region.ready md ops listed = [i, j])
 (hi : ops[i]? = some oi) (hg : oi.guard = none) (hd : oi.dst = d) (hj : ops[j]? = some oj) (hgj : oj.guard = none) (hdj : oj.dst = e)
 (h : ∀ K' : Act → World → Prop, Shut (∀ a' w', (∃ v, a' = a.put d v) → S w' → (S w' → wpAnyH P md ops Q S fuel (listed.setIfInBounds i true) a' w') → K' a' w') → StepG (if Region.wanted oi (yielded ops a.tmps) = true then Oper.wp P oi a w K' Q else K' (a.put oi.dst undef) w))
 (h' : ∀ K' : Act → World → Prop, Shut (∀ a' w', (∃ v, a' = a.put e v) → S w' → (S w' → wpAnyH P md ops Q S fuel (listed.setIfInBounds j true) a' w') → K' a' w') → StepG (if Region.wanted oj (yielded ops a.tmps) = true then Oper.wp P oj a w K' Q else K' (a.put oj.dst undef) w)) : wpAnyH P md ops Q S (fuel + 1) listed a w := by
 refine wpAnyH_all hr (by simp) fun x hx => ?_
 rcases List.mem_cons.1 hx with rfl | hx
 · unfold wpOp
   simp only [hi]
   have hw : Region.wanted oi (yielded ops a.tmps) = true := by simp [Region.wanted, hg]
   rw [if_pos hw]
   have h2 := h (fun a' w' => S w' ∧ wpAnyH P md ops Q S fuel (listed.setIfInBounds x true) a' w') fun a' w' _ hS hW => ⟨hS, hW hS⟩
   replace h2 := h2.out
   rw [if_pos hw] at h2
   exact .inl h2
 · obtain rfl : x = j := by simpa using hx
   unfold wpOp
   simp only [hj]
   have hw : Region.wanted oj (yielded ops a.tmps) = true := by simp [Region.wanted, hgj]
   rw [if_pos hw]
   have h2 := h' (fun a' w' => S w' ∧ wpAnyH P md ops Q S fuel (listed.setIfInBounds x true) a' w') fun a' w' _ hS hW => ⟨hS, hW hS⟩
   replace h2 := h2.out
   rw [if_pos hw] at h2
   exact .inl h2
theorem MapAtR.drew {w : World} {B n : Nat} {f : ReceiptD → Option Nat} (h : MapAtR w B n f) : MapAtR w.drew B n f := h
theorem implReceiptsOk_any (A : Option Addr) (c : Nat) (l : List ReceiptD) (w : World) (hr : SlF AnyB ReceiptD.cells 3 w A l c) (hok : ∀ d ∈ l, d.Ok) :
 Calls Tryz.prog 59 #[.slice A l.length c] w fun e w' => e = .returned (.bool (recsOk l)) ∧ Ext w w' := by
 have HR := hU hr
 have Hok := hU hok
 have hlm := hr.len
 unfold maxLen at hlm
 obtain ⟨fin, hfin⟩ : ∃ fin, fin = recsOk l := ⟨_, rfl⟩
 rw [← hfin]
 by_cases h5 : l.length ≤ 512
 case neg =>
  have E := hU (show fin = false by rw [hfin, recsOk, decide_eq_false h5]; rfl)
  have h6 : (512 : Int) < (l.length : Int) := by omega
  clear hfin
  go_enter Tryz.func59, Tryz.ntmps59
  go_wp2_with fail
  go_ret
  exact ⟨ret_bool E.out.symm, Below.refl w.heap.size w⟩
 have F := hU (show fin = allTo (recAt l) l.length by rw [hfin, recsOk, decide_eq_true h5]; rfl)
 clear hfin hok hr
 have hmm := @run_makeMap Tryz.prog
 have M0 := hU (MapAtR.made w)
 go_enter Tryz.func59, Tryz.ntmps59
 go_wp2_with fail
 obtain ⟨g, hg⟩ : ∃ g, g = w.heap.size := ⟨_, rfl⟩
 have M1 := M0.out
 rw [← hg] at M1
 have E1 := Ext.new (Below.refl w.heap.size w) (.map #[] 0)
 have hg1 : w.heap.size ≤ g := by omega
 rw [← hg]
 clear hg M0 hmm
 have M1 := hU M1; have E1 := hU E1
 go_loopw [12] (fun i wr => ∃ k : Nat, k ≤ l.length ∧ i = .int .i64 k ∧ allTo (recAt l) k = true ∧ MapAtR wr g k (seenF (l.take k)) ∧ Ext w wr) (fun i _ => l.length - (intOf i).toNat)
 case atStart => exact ⟨0, Nat.zero_le _, rfl, rfl, by rw [List.take_zero, seenF_nil]; exact M1.out, E1.out⟩
 case round =>
  clear M1 E1
  obtain ⟨k, hk, rfl, hi, hM, he⟩ := hrel
  have Hi := hU hi; have KM := hU hM
  clear hi hM
  by_cases hlt : k < l.length
  case neg =>
   have E := hU (show fin = true by rw [F.out, show l.length = k by omega]; exact Hi.out)
   go_wp2_with fail
   go_ret
   exact ⟨ret_bool E.out.symm, he⟩
  obtain ⟨b, off, rfl, hb, hc⟩ := Reads.at_ (HR.out.ext he).reads (k := k) hlt
  obtain ⟨d, hd⟩ : ∃ d, d = l[k] := ⟨_, rfl⟩
  have hdl : l[k]? = some d := by rw [hd]; exact List.getElem?_eq_getElem hlt
  have hdo := Hok.out d (List.mem_of_getElem? hdl)
  obtain ⟨c0, c1, c2⟩ := rec_at hc hdl
  have Hdl := hU hdl
  have RA := hU (recAt_eq hdl)
  have NX := hU (seenF_next hdl)
  have HDO := hU hdo
  clear hc hd hdl hdo
  go_upto_region 7 with fail
  have KE := Blk.new wr 58 #[.string d.reader, .string d.topic, .int .i64 d.index]
  have hgw := KM.out.lt
  have h2 := Ext.new (Below.refl wr.heap.size wr) (.cells #[.string d.reader, .string d.topic, .int .i64 d.index] 58)
  replace he := he.next h2; replace KM := hU (KM.out.ext h2)
  obtain ⟨q, hq⟩ : ∃ q, q = wr.heap.size := ⟨_, rfl⟩
  rw [← hq] at KE hgw
  rw [← hq]
  clear hq h2 c0 c1 c2
  generalize wr.alloc (.cells #[.string d.reader, .string d.topic, .int .i64 d.index] 58) = w1 at *
  obtain ⟨r0, f0⟩ := KE.rules
  cases p1 : receiptOk d
  · have E := hU (show fin = false by rw [F.out]; exact allTo_bad (k := k) (by rw [RA.out, p1]; rfl) _ hlt)
    go_wp2_with fail
    refine (ReceiptOk_any d _ HDO.out).mono ?_
    rintro e w2 ⟨rfl, h1⟩
    rw [p1]
    replace he := he.next h1
    go_wp2_with fail
    go_ret
    exact ⟨ret_bool E.out.symm, he⟩
  go_wp2_with fail
  refine (ReceiptOk_any d _ HDO.out).mono ?_
  rintro e w2 ⟨rfl, h1⟩
  rw [p1]
  clear r0 f0
  replace KE := KE.ext h1
  replace he := he.next h1; replace KM := hU (KM.out.ext h1)
  clear h1
  obtain ⟨r0, f0⟩ := KE.rules
  have LK := KM.out.look1 d HDO.out
  rw [seenF_get] at LK
  cases p2 : (l.take k).any fun x => x.eqb d
  · rw [p2] at LK
    simp only [Bool.false_eq_true, if_false] at LK
    have E := hU (show allTo (recAt l) (k + 1) = true from allTo_good Hi.out (by rw [RA.out, p1, p2]; rfl))
    obtain ⟨v0, st, w3, hme, w4, hes, hM4, hgr⟩ := KM.out.drew.entry (q := 1) d HDO.out (by unfold maxLen; omega) (by omega)
    have he4 := Ext.mapGrown (he.drew) hgr hg1
    have hes1 : (Instr.entryStore 178 (.map (some g)) (.int .i64 st) (.int .i64 1)).run Tryz.prog w3 = .ok () w4 := hes
    clear hes
    rw [NX.out] at hM4
    have KM4 := hU hM4
    have LK2 : (Instr.lookup 178 (.map (some g)) (.agg #[.string d.reader, .string d.topic, .int .i64 d.index]) false).run Tryz.prog w2.drew = .ok (.int .i64 0) w2.drew := by
     have := KM.out.drew.look1 d HDO.out
     rw [seenF_get, p2] at this
     simpa using this
    have KD : Hid (Blk w2.drew q 58 #[.string d.reader, .string d.topic, .int .i64 d.index]) := hU KE
    clear hM4 hgr
    go_upto_region 9 with fail
    refine wp_region_held_drew (S := fun _ => True) (by kernel_rfl) trivial (fun hH => ?_)
    refine takeQ 0 (.map (some g)) (some 25) rfl rfl (by kernel_rfl) (Or.inl ⟨by rfl, ?y1⟩) hH ?r1
    case y1 => intro w' hS'; go_simp; try with_reducible rfl
    try simp only [zA]
    refine oneH 1 (oi := _) (some 26) (by kernel_rfl) rfl rfl rfl (fun K' hK => ?_)
    refine ⟨?_⟩
    rw [if_pos (by rfl)]
    obtain ⟨r1, f1⟩ := KD.out.rules
    go_simp
    refine hK.out _ _ ⟨_, rfl⟩ trivial (fun _ => ?_)
    clear hK K'
    try simp only [zB]
    have LK3 := KM.out.drew.entry1 d HDO.out (by unfold maxLen; omega) (by rw [seenF_get, p2]; rfl) hme
    refine twoH 2 4 (oi := _) (oj := _) (some 27) (some 29) (by kernel_rfl) rfl rfl rfl rfl rfl rfl (fun K' hK => ?_) (fun K' hK => ?_)
    · refine ⟨?_⟩
      rw [if_pos (by rfl)]
      go_simp
      refine hK.out _ _ ⟨_, rfl⟩ trivial (fun _ => ?_)
      clear hK K' LK3
      try simp only [zB]
      refine takeQ 3 (.int .i64 1) (some 28) rfl rfl (by kernel_rfl) (Or.inl ⟨by rfl, ?y3a⟩) trivial ?r3a
      case y3a => intro w' hS'; go_simp; exact IntWalk.i64_in _ (by omega)
      try simp only [zA]
      refine oneH 4 (oi := _) (some 29) (by kernel_rfl) rfl rfl rfl (fun K' hK => ?_)
      refine ⟨?_⟩
      rw [if_pos (by rfl)]
      go_simp
      refine hK.out _ _ ⟨_, rfl⟩ trivial (fun _ => ?_)
      clear hK K'
      try simp only [zB]
      refine takeQ 5 (.int .i64 st) (some 30) rfl rfl (by kernel_rfl) (Or.inl ⟨by rfl, ?y5a⟩) trivial ?r5a
      case y5a => intro w' hS'; go_simp; try with_reducible rfl
      try simp only [zA]
      refine oneH 6 (oi := _) (none) (by kernel_rfl) rfl rfl rfl (fun K' hK => ?_)
      refine ⟨?_⟩
      rw [if_pos (by rfl)]
      go_simp
      refine hK.out _ _ ⟨undef, rfl⟩ trivial (fun _ => ?_)
      clear hK K'
      try simp only [zB]
      refine wpAnyH_done (by kernel_rfl) ?_ _
      clear LK hme hes1 KD KE r0 f0 KM he
      go_wp2_with fail
      go_roundw
      case rel => exact ⟨k + 1, by omega, by go_num, E.out, KM4.out, he4⟩
      case measure => simp [intOf]; omega
    · refine ⟨?_⟩
      rw [if_pos (by rfl)]
      go_simp
      refine hK.out _ _ ⟨_, rfl⟩ trivial (fun _ => ?_)
      clear hK K' LK2
      try simp only [zB]
      refine takeQ 5 (.int .i64 st) (some 30) rfl rfl (by kernel_rfl) (Or.inl ⟨by rfl, ?y5b⟩) trivial ?r5b
      case y5b => intro w' hS'; go_simp; try with_reducible rfl
      try simp only [zA]
      refine oneH 2 (oi := _) (some 27) (by kernel_rfl) rfl rfl rfl (fun K' hK => ?_)
      refine ⟨?_⟩
      rw [if_pos (by rfl)]
      go_simp
      refine hK.out _ _ ⟨_, rfl⟩ trivial (fun _ => ?_)
      clear hK K'
      try simp only [zB]
      refine takeQ 3 (.int .i64 1) (some 28) rfl rfl (by kernel_rfl) (Or.inl ⟨by rfl, ?y3b⟩) trivial ?r3b
      case y3b => intro w' hS'; go_simp; exact IntWalk.i64_in _ (by omega)
      try simp only [zA]
      refine oneH 6 (oi := _) (none) (by kernel_rfl) rfl rfl rfl (fun K' hK => ?_)
      refine ⟨?_⟩
      rw [if_pos (by rfl)]
      go_simp
      refine hK.out _ _ ⟨undef, rfl⟩ trivial (fun _ => ?_)
      clear hK K'
      try simp only [zB]
      refine wpAnyH_done (by kernel_rfl) ?_ _
      clear LK hme hes1 KD KE r0 f0 KM he
      go_wp2_with fail
      go_roundw
      case rel => exact ⟨k + 1, by omega, by go_num, E.out, KM4.out, he4⟩
      case measure => simp [intOf]; omega
  · rw [p2] at LK
    simp only [if_true] at LK
    have E := hU (show fin = false by rw [F.out]; exact allTo_bad (k := k) (by rw [RA.out, p1, p2]; rfl) _ hlt)
    go_wp2_with fail
    go_ret
    exact ⟨ret_bool E.out.symm, he⟩
end Go.Proofs.YtgeengkdgdjcjaaGreat
