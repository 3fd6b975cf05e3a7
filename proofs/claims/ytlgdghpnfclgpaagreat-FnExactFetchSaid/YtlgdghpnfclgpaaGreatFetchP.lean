/-
  Reread; Frames; Unfr; UnfrLaw; ReadRec; ReadLf; LeafBk; FramesLaw; FramesWk; HeadRead; ReadHead; TextsP; FetchP: No condition.
-/
import Derived.Test.YtlgdghpnfclgpaaGreatWords
import Derived.Test.YtlgdghpnfclgpaaGreatHeadOps
import Derived.Test.YtlgdghpnfclgpaaGreatHashTop
import Derived.Test.YtlgdghpnfclgpaaGreatMixIn
import Derived.Test.YtlgdghpnfclgpaaGreatBunch
import Derived.Test.YtlgdghpnfclgpaaGreatConvHead
import Derived.Test.YtlgdghpnfclgpaaGreatLeafText
import Derived.Test.YtlgdghpnfclgpaaGreatNest
import Derived.Test.YtlgdghpnfclgpaaGreatAppNew
import Derived.Test.YtlgdghpnfclgpaaGreatTypes
import Derived.Test.YtlgdghpnfclgpaaGreatBroker1
namespace Go.Proofs.YtlgdghpnfclgpaaGreat
set_option linter.unusedSimpArgs false
open Go.RowKit
set_option linter.unusedVariables false
def Sofar (T : ByteArray) (r : Rd) (X : ByteArray) : Prop := r.bad = false → T.extract 0 r.pos = X ∧ r.pos ≤ T.size
theorem Sofar.start (T : ByteArray) : Sofar T ⟨0, false⟩ ⟨#[]⟩ := fun _ => ⟨by simp; rfl, Nat.zero_le _⟩
theorem rdNext_ok {T : ByteArray} {r : Rd} {n : Nat} (h : (rdNext T r n).bad = false) : r.bad = false ∧ (rdNext T r n).pos = r.pos + n ∧ r.pos + n ≤ T.size ∧ rdTake T r n = T.extract r.pos (r.pos + n) := by
 unfold rdNext at h ⊢
 unfold rdTake
 cases hf : rdFails T r n
 · simp only [rdFails, Bool.or_eq_false_iff, decide_eq_false_iff_not] at hf
   exact ⟨hf.1, rfl, by omega, rfl⟩
 · rw [hf] at h; simp at h
theorem Sofar.take {T : ByteArray} {r : Rd} {X : ByteArray} (h : Sofar T r X) (n : Nat) : Sofar T (rdNext T r n) (X ++ rdTake T r n) := by
 intro hb
 obtain ⟨h1, h2, h3, h4⟩ := rdNext_ok hb
 obtain ⟨h5, h6⟩ := h h1
 refine ⟨?_, by omega⟩
 rw [h2, h4, ← h5]
 exact ByteArray.extract_eq_extract_append_extract r.pos (Nat.zero_le _) (by omega)
def frameB (T : ByteArray) : ByteArray := lowB T.size 2 ++ digest 4 4 T ++ T
def fa0 (p : Nat) : Rd := ⟨p, false⟩
def faN (T : ByteArray) (p : Nat) : Nat := beNum (rdTake T (fa0 p) 2)
def fa1 (T : ByteArray) (p : Nat) : Rd := rdNext T (fa0 p) 2
def faSum (T : ByteArray) (p : Nat) : ByteArray := rdTake T (fa1 T p) 4
def fa2 (T : ByteArray) (p : Nat) : Rd := rdNext T (fa1 T p) 4
def faText (T : ByteArray) (p : Nat) : ByteArray := rdTake T (fa2 T p) (faN T p)
def fa3 (T : ByteArray) (p : Nat) : Rd := rdNext T (fa2 T p) (faN T p)
def faOk (T : ByteArray) (p : Nat) : Bool := !(fa3 T p).bad && inR (faN T p) 1 1000 && ((digest 4 4 (faText T p)).toList == (faSum T p).toList)
def svals (l : List ByteArray) : List Value := l.map .string
def unfGo (T : ByteArray) : Nat → Nat → List ByteArray × Nat
 | 0, p => ([], p)
 | f + 1, p => if faOk T p then (faText T p :: (unfGo T f (fa3 T p).pos).1, (unfGo T f (fa3 T p).pos).2) else ([], p)
def unf (T : ByteArray) : List ByteArray × Nat := if T.size ≤ 300000 then unfGo T 600 0 else ([], 0)
theorem faOk_pos {T : ByteArray} {p : Nat} (h : faOk T p = true) : (fa3 T p).pos = p + 6 + faN T p ∧ (fa3 T p).pos ≤ T.size ∧ 1 ≤ faN T p ∧ faN T p ≤ 1000 := by
 simp only [faOk, Bool.and_eq_true, Bool.not_eq_true'] at h
 obtain ⟨⟨h1, h2⟩, h3⟩ := h
 obtain ⟨h4, h5⟩ := inR_true h2
 obtain ⟨a1, a2, a3, _⟩ := rdNext_ok h1
 obtain ⟨b1, b2, b3, _⟩ := rdNext_ok a1
 obtain ⟨c1, c2, c3, _⟩ := rdNext_ok b1
 have e1 : (fa1 T p).pos = p + 2 := c2
 have e2 : (fa2 T p).pos = (fa1 T p).pos + 4 := b2
 have e3 : (fa3 T p).pos = (fa2 T p).pos + faN T p := a2
 omega
structure UInv (T : ByteArray) (fin : List ByteArray × Nat) (l : List ByteArray) (p : Nat) : Prop where
 len : l.length ≤ 600
 pos : p ≤ T.size
 texts : l ++ (unfGo T (600 - l.length) p).1 = fin.1
 at_ : (unfGo T (600 - l.length) p).2 = fin.2
theorem UInv.done {T : ByteArray} {fin : List ByteArray × Nat} {l : List ByteArray} {p : Nat} (h : UInv T fin l p) (hl : 600 ≤ l.length) : l = fin.1 ∧ p = fin.2 := by
 have h1 := h.texts; have h2 := h.at_
 rw [show 600 - l.length = 0 by omega] at h1 h2
 exact ⟨by simpa [unfGo] using h1, h2⟩
theorem UInv.step {T : ByteArray} {fin : List ByteArray × Nat} {l : List ByteArray} {p : Nat} (h : UInv T fin l p) (hl : l.length < 600) (hk : faOk T p = true) : UInv T fin (l ++ [faText T p]) (fa3 T p).pos := by
 have h1 := h.texts; have h2 := h.at_
 rw [show 600 - l.length = (599 - l.length) + 1 by omega] at h1 h2
 simp only [unfGo, hk, if_true] at h1 h2
 have e : 600 - (l ++ [faText T p]).length = 599 - l.length := by rw [List.length_append, List.length_singleton]; omega
 refine ⟨by simp; omega, (faOk_pos hk).2.1, ?_, ?_⟩
 · rw [e, List.append_assoc]; exact h1
 · rw [e]; exact h2
theorem ownsRow_nil (w : World) (B e size : Nat) : w.ownsRow B e size (.slice none 0 0) 0 [] := ⟨by simp, .inl ⟨rfl, rfl⟩⟩
def OwnS (W w : World) (v : Value) (l : List ByteArray) : Prop := w.ownsRow W.heap.size 9 1 v l.length (svals l)

def rr0 : Rd := ⟨0, false⟩
def rr1 (T : ByteArray) : Rd := rdNext T rr0 1
def rr2 (T : ByteArray) : Rd := rdShortNext T (rr1 T) 1
def rr3 (T : ByteArray) : Rd := rdShortNext T (rr2 T) 1
def rr4 (T : ByteArray) : Rd := rdNext T (rr3 T) 2
def rrD (T : ByteArray) : ReceiptD := ⟨rdShort T (rr1 T) 1, rdShort T (rr2 T) 1, (beNum (rdTake T (rr3 T) 2) : Int)⟩
def rrKind (T : ByteArray) : Bool := (rdTake T rr0 1).toList == [82]
def rrImpl (T : ByteArray) : Bool := rrKind T && rdDone T (rr4 T) && receiptOk (rrD T)
def ReceiptD.zero : ReceiptD := ⟨⟨#[]⟩, ⟨#[]⟩, 0⟩
def rl0 : Rd := ⟨0, false⟩
def rl1 (T : ByteArray) : Rd := rdNext T rl0 1
def rl2 (T : ByteArray) : Rd := rdShortNext T (rl1 T) 1
def rl3 (T : ByteArray) : Rd := rdNext T (rl2 T) 2
def rl4 (T : ByteArray) : Rd := rdNext T (rl3 T) 4
def rl5 (T : ByteArray) : Rd := rdShortNext T (rl4 T) 1
def rl6 (T : ByteArray) : Rd := rdShortNext T (rl5 T) 2
def rlD (T : ByteArray) : EntryD := ⟨rdShort T (rl1 T) 1, (beNum (rdTake T (rl2 T) 2) : Int), (beNum (rdTake T (rl3 T) 4) : Int), rdShort T (rl4 T) 1, rdShort T (rl5 T) 2⟩
def rlKind (T : ByteArray) : Bool := (rdTake T rl0 1).toList == [69]
def rlImpl (T : ByteArray) : Bool := rlKind T && rdDone T (rl6 T) && entryOk (rlD T)
def EntryD.zero : EntryD := ⟨⟨#[]⟩, 0, 0, ⟨#[]⟩, ⟨#[]⟩⟩
def Rest (T : ByteArray) (r : Rd) (Y : ByteArray) : Prop := r.bad = false ∧ ∃ X, T = X ++ Y ∧ X.size = r.pos
theorem Rest.start (T : ByteArray) : Rest T ⟨0, false⟩ T := ⟨rfl, ⟨#[]⟩, by rw [show (⟨#[]⟩ : ByteArray) ++ T = T from ByteArray.empty_append], rfl⟩
theorem part_mid (X a Y : ByteArray) : (X ++ (a ++ Y)).extract X.size (X.size + a.size) = a := by
 have h1 : (X ++ (a ++ Y)).extract X.size (X.size + a.size) = (X ++ (a ++ Y)).extract (X.size + 0) (X.size + a.size) := rfl
 apply ByteArray.ext
 rw [← Array.toList_inj]
 simp [ByteArray.data_extract, ByteArray.data_append, List.drop_append, List.take_append, ← ByteArray.size_data]
theorem Rest.take {T : ByteArray} {r : Rd} {a Y : ByteArray} {n : Nat} (h : Rest T r (a ++ Y)) (hn : a.size = n) : rdTake T r n = a ∧ Rest T (rdNext T r n) Y := by
 obtain ⟨hb, X, rfl, hX⟩ := h
 subst hn
 have hf : rdFails (X ++ (a ++ Y)) r a.size = false := by
  simp only [rdFails, hb, Bool.false_or, decide_eq_false_iff_not, ByteArray.size_append]
  omega
 refine ⟨?_, ?_, X ++ a, ?_, ?_⟩
 · rw [rdTake, hf, ← hX]; exact part_mid X a Y
 · rw [rdNext, hf]; rfl
 · rw [ByteArray.append_assoc]
 · rw [rdNext, hf, ByteArray.size_append, hX]; rfl
theorem Rest.done {T : ByteArray} {r : Rd} (h : Rest T r ⟨#[]⟩) : rdDone T r = true := by
 obtain ⟨hb, X, rfl, hX⟩ := h
 rw [rdDone, hb, show X ++ (⟨#[]⟩ : ByteArray) = X from ByteArray.append_empty, hX]
 simp
def fits1 (T : ByteArray) : Bool := inR T.size 1 1000
def framesT : List ByteArray → ByteArray
 | [] => ⟨#[]⟩
 | T :: l => frameB T ++ framesT l
theorem framesT_append : ∀ (a b : List ByteArray), framesT (a ++ b) = framesT a ++ framesT b
 | [], b => by simp [framesT]; exact ByteArray.empty_append.symm
 | T :: a, b => by rw [List.cons_append, framesT, framesT, framesT_append a b, ByteArray.append_assoc]
theorem Rest.size {U Y : ByteArray} {r : Rd} (h : Rest U r Y) : U.size = r.pos + Y.size := by
 obtain ⟨_, X, rfl, hX⟩ := h
 rw [ByteArray.size_append, hX]
def framesOk (l : List ByteArray) : Bool := decide (l.length ≤ 600) && l.all fits1 && decide ((framesT l).size ≤ 300000)
theorem framesT_next {l : List ByteArray} {k : Nat} {T : ByteArray} (h : l[k]? = some T) : framesT (l.take (k + 1)) = framesT (l.take k) ++ frameB T := by
 obtain ⟨hk, rfl⟩ := List.getElem?_eq_some_iff.1 h
 rw [List.take_succ_eq_append_getElem hk, framesT_append]
 simp only [framesT]
 rw [append_nil]
theorem framesOk_yes {l : List ByteArray} (h0 : l.length ≤ 600) (h1 : ∀ T ∈ l, fits1 T = true) (h2 : (framesT l).size ≤ 300000) : framesOk l = true := by
 simp only [framesOk, Bool.and_eq_true, decide_eq_true_eq, List.all_eq_true]
 exact ⟨⟨h0, h1⟩, h2⟩
structure FInv (l : List ByteArray) (k : Nat) : Prop where
 le : k ≤ l.length
 fits : ∀ T ∈ l.take k, fits1 T = true
 small : (framesT (l.take k)).size ≤ 300000
theorem FInv.start (l : List ByteArray) : FInv l 0 := ⟨Nat.zero_le _, by simp, by simp [framesT]; exact Nat.zero_le _⟩
theorem FInv.next {l : List ByteArray} {k : Nat} {T : ByteArray} (h : FInv l k) (hT : l[k]? = some T) (hf : fits1 T = true) (hs : (framesT (l.take k)).size + (frameB T).size ≤ 300000) : FInv l (k + 1) := by
 obtain ⟨hk, he⟩ := List.getElem?_eq_some_iff.1 hT
 refine ⟨hk, fun x hx => ?_, by rw [framesT_next hT, ByteArray.size_append]; exact hs⟩
 rw [List.take_succ_eq_append_getElem hk] at hx
 rcases List.mem_append.1 hx with hx | hx
 · exact h.fits x hx
 · obtain rfl : x = l[k] := by simpa using hx
   rw [he]; exact hf
theorem FInv.done {l : List ByteArray} (h : FInv l l.length) (hl : l.length ≤ 600) : framesOk l = true := by
 obtain ⟨_, h1, h2⟩ := h
 rw [List.take_length] at h1 h2
 exact framesOk_yes hl h1 h2
def rh1 (T : ByteArray) (r : Rd) : Rd := rdNext T r 2
def rh2 (T : ByteArray) (r : Rd) : Rd := rdNext T (rh1 T r) 2
def rh3 (T : ByteArray) (r : Rd) (m : Nat) : Rd := rdNext T (rh2 T r) m
def rh4 (T : ByteArray) (r : Rd) (m : Nat) : Rd := rdNext T (rh3 T r m) 2
def rh5 (T : ByteArray) (r : Rd) (m : Nat) : Rd := rdNext T (rh4 T r m) m
def rhD (T : ByteArray) (r : Rd) (m : Nat) : HeadD := ⟨(beNum (rdTake T r 2) : Int), (beNum (rdTake T (rh1 T r) 2) : Int), rdTake T (rh2 T r) m, (beNum (rdTake T (rh3 T r m) 2) : Int), rdTake T (rh4 T r m) m⟩
def rh0 : Rd := ⟨0, false⟩
def hrD (n : Int) (T : ByteArray) : HeadD := rhD T rh0 n.toNat
def hrImpl (n : Int) (T : ByteArray) : Bool := inR n 1 32 && (rdDone T (rh5 T rh0 n.toNat) && headOk n (hrD n T))
def HeadD.zero : HeadD := ⟨0, 0, ⟨#[]⟩, 0, ⟨#[]⟩⟩
theorem broker_parts {b : BrokerD} (h : brokerB b = true) : inR b.width 1 32 = true ∧ b.log.entries.length ≤ 512 ∧ (∀ e ∈ b.log.entries, entryOk e = true) ∧ b.receipts.length ≤ 512 ∧ (∀ r ∈ b.receipts, receiptOk r = true) ∧ 0 < b.heads.length ∧ b.heads.length ≤ 400 ∧ (∀ h ∈ b.heads, headOk b.width h = true) := by
 rw [brokerB, Bool.and_eq_true] at h
 have p := h.1
 simp only [brkParts, Bool.and_eq_true, decide_eq_true_eq] at p
 obtain ⟨⟨⟨⟨⟨⟨⟨hw, hlog⟩, hrec⟩, h0⟩, hh⟩, hz0⟩, hsl⟩, hrd⟩ := p
 have l3 := headsOk_all hh
 refine ⟨hw, (logOk_all hlog).1, (logOk_all hlog).2, (recsOk_all hrec).1, (recsOk_all hrec).2, h0, l3.2.1, fun x hx => ?_⟩
 obtain ⟨j, hj, e⟩ := List.mem_iff_getElem.1 hx
 exact (headAt_ok (List.getElem?_eq_some_iff.2 ⟨hj, e⟩) (l3.2.2 j hj)).1
def inclN (wd : Int) : Nat → List ByteArray → Nat → List ByteArray
 | 0, _, _ => []
 | m + 1, l, k => if l.length ≤ 1 then [] else if k < half l.length then inclN wd m (l.take (half l.length)) k ++ [treeR wd (l.drop (half l.length))] else inclN wd m (l.drop (half l.length)) (k - half l.length) ++ [treeR wd (l.take (half l.length))]
theorem inclN_len (wd : Int) : ∀ (m : Nat) (l : List ByteArray) (k : Nat), (inclN wd m l k).length ≤ m
 | 0, _, _ => Nat.le_refl _
 | m + 1, l, k => by
   rw [inclN]
   split
   · exact Nat.zero_le _
   · split
     · have := inclN_len wd m (l.take (half l.length)) k
       simp; omega
     · have := inclN_len wd m (l.drop (half l.length)) (k - half l.length)
       simp; omega
theorem inclN_one {wd : Int} {m : Nat} {l : List ByteArray} {k : Nat} (h : l.length ≤ 1) : inclN wd m l k = [] := by
 cases m with
 | zero => rfl
 | succ m => rw [inclN, if_pos h]
theorem inclN_low {wd : Int} {m : Nat} {l : List ByteArray} {k h : Nat} (hh : h = half l.length) (h2 : 2 ≤ l.length) (hk : k < h) : inclN wd (m + 1) l k = inclN wd m (l.take h) k ++ [treeR wd (l.drop h)] := by
 subst hh; rw [inclN, if_neg (by omega), if_pos hk]
theorem inclN_high {wd : Int} {m : Nat} {l : List ByteArray} {k h : Nat} (hh : h = half l.length) (h2 : 2 ≤ l.length) (hk : h ≤ k) : inclN wd (m + 1) l k = inclN wd m (l.drop h) (k - h) ++ [treeR wd (l.take h)] := by
 subst hh; rw [inclN, if_neg (by omega), if_neg (by omega)]
def hasB (b : BrokerD) (n : Int) : Bool := b.heads.any fun h => h.size == n
def ftIx (b : BrokerD) (t : ByteArray) (ix : Int) : Int := idxB (ofTI t ix) b.log.entries
def lfCode (b : BrokerD) (k n : Int) : Nat := if hasB b n then (if 0 ≤ k ∧ k < n then 0 else 3) else 2
def lfE (b : BrokerD) (k : Int) : EntryD := b.log.entries.getD k.toNat ⟨⟨#[]⟩, 0, 0, ⟨#[]⟩, ⟨#[]⟩⟩
def lfP (b : BrokerD) (k n : Int) : List ByteArray := inclN b.width 512 ((leavesH b.width b.log.entries).take n.toNat) k.toNat
theorem lf2 {b : BrokerD} {k n : Int} (h : hasB b n = false) : lfCode b k n = 2 := by rw [lfCode, h]; rfl
theorem lf3 {b : BrokerD} {k n : Int} (h : hasB b n = true) (h2 : ¬ (0 ≤ k ∧ k < n)) : lfCode b k n = 3 := by rw [lfCode, h, if_pos rfl, if_neg h2]
theorem lf0 {b : BrokerD} {k n : Int} (h : hasB b n = true) (h2 : 0 ≤ k ∧ k < n) : lfCode b k n = 0 := by rw [lfCode, h, if_pos rfl, if_pos h2]
theorem lf_good {b : BrokerD} {k n : Int} (h : lfCode b k n = 0) : hasB b n = true ∧ 0 ≤ k ∧ k < n := by
 unfold lfCode at h
 cases hb : hasB b n
 · rw [hb] at h; simp at h
 · rw [hb, if_pos rfl] at h
   by_cases h2 : 0 ≤ k ∧ k < n
   · exact ⟨rfl, h2⟩
   · rw [if_neg h2] at h; omega
theorem has_size {b : BrokerD} {n : Int} (hB : brokerB b = true) (h : hasB b n = true) : ∃ m : Nat, n = (m : Int) ∧ m ≤ b.log.entries.length := by
 obtain ⟨hw, he, he2, hr, hr2, h0, hh, hok⟩ := broker_parts hB
 rw [brokerB, Bool.and_eq_true] at hB
 have p := hB.1
 simp only [brkParts, Bool.and_eq_true, decide_eq_true_eq] at p
 obtain ⟨⟨⟨⟨⟨⟨⟨_, _⟩, _⟩, _⟩, _⟩, _⟩, hsl⟩, _⟩ := p
 rw [hasB, List.any_eq_true] at h
 obtain ⟨x, hx, e⟩ := h
 have hl := headOk_in (hok x hx)
 obtain ⟨i, hi⟩ := List.getElem?_of_mem hx
 have h1 := allTo_iff.1 hsl i (List.getElem?_eq_some_iff.1 hi).1
 rw [sealAt, hi] at h1
 simp only [Bool.and_eq_true, decide_eq_true_eq] at h1
 have e1 := h1.1.1.1
 rw [leavesH, List.length_map] at e1
 rw [beq_iff_eq] at e
 exact ⟨n.toNat, by omega, by omega⟩
theorem ft_part {b : BrokerD} {t : ByteArray} {ix : Int} (m : Nat) : lfCode b (idxB (ofTI t ix) (b.log.entries.take m)) m = lfCode b (ftIx b t ix) m ∧ (lfCode b (ftIx b t ix) m = 0 → idxB (ofTI t ix) (b.log.entries.take m) = ftIx b t ix) := by
 have h1 := idxB_take (p := ofTI t ix) b.log.entries m
 have g1 := idxB_ge (ofTI t ix) (b.log.entries.take m)
 have g2 := idxB_ge (ofTI t ix) b.log.entries
 have ht : (b.log.entries.take m).length ≤ m := by rw [List.length_take]; omega
 unfold ftIx
 have key : 0 ≤ idxB (ofTI t ix) b.log.entries → idxB (ofTI t ix) b.log.entries < (m : Int) → idxB (ofTI t ix) (b.log.entries.take m) = idxB (ofTI t ix) b.log.entries := fun ha hb => by
  obtain ⟨k, hk⟩ : ∃ k : Nat, idxB (ofTI t ix) b.log.entries = (k : Int) := ⟨_, (Int.toNat_of_nonneg ha).symm⟩
  obtain ⟨x, x1, x2, x3⟩ := idxB_spec hk
  rw [hk]
  exact idxB_at (by rw [List.getElem?_take, if_pos (by omega)]; exact x1) x2 (fun y hy => x3 y (by rw [List.take_take, Nat.min_eq_left (by omega)] at hy; exact hy))
 refine ⟨?_, fun h => key (lf_good h).2.1 (lf_good h).2.2⟩
 unfold lfCode
 by_cases ha : 0 ≤ idxB (ofTI t ix) b.log.entries ∧ idxB (ofTI t ix) b.log.entries < (m : Int)
 · rw [key ha.1 ha.2]
 · have hn : ¬ (0 ≤ idxB (ofTI t ix) (b.log.entries.take m) ∧ idxB (ofTI t ix) (b.log.entries.take m) < (m : Int)) := fun hc => by
    rw [decide_eq_true hc.1] at h1
    have := (Bool.and_eq_true _ _ ▸ h1.symm : _ ∧ _)
    simp only [decide_eq_true_eq] at this
    exact ha ⟨this.1, by omega⟩
   rw [if_neg ha, if_neg hn]
def ftCode (b : BrokerD) (t : ByteArray) (ix n : Int) : Nat := if brokerB b then lfCode b (ftIx b t ix) n else 1
def zE : EntryD := ⟨⟨#[]⟩, 0, 0, ⟨#[]⟩, ⟨#[]⟩⟩
def ftE (b : BrokerD) (t : ByteArray) (ix n : Int) : EntryD := if ftCode b t ix n = 0 then lfE b (ftIx b t ix) else zE
def ftL (b : BrokerD) (t : ByteArray) (ix n : Int) : Int := if ftCode b t ix n = 0 then ftIx b t ix else 0
def ftP (b : BrokerD) (t : ByteArray) (ix n : Int) : List ByteArray := if ftCode b t ix n = 0 then lfP b (ftIx b t ix) n else []
theorem ft_bad {b : BrokerD} {t : ByteArray} {ix n : Int} {k : Nat} (h : ftCode b t ix n = k) (h0 : k ≠ 0) : ftE b t ix n = zE ∧ ftL b t ix n = 0 ∧ ftP b t ix n = [] := by
 have : ¬ ftCode b t ix n = 0 := by omega
 exact ⟨by rw [ftE, if_neg this], by rw [ftL, if_neg this], by rw [ftP, if_neg this]⟩
theorem lf_take {b : BrokerD} {n : Nat} : (leavesH b.width b.log.entries).take n = (b.log.entries.take n).map (leafH b.width) := by rw [leavesH, List.map_take]
theorem lfP_len (b : BrokerD) (k n : Int) : (lfP b k n).length ≤ 512 := inclN_len ..
theorem ftP_len (b : BrokerD) (t : ByteArray) (ix n : Int) : (ftP b t ix n).length ≤ 512 := by
 unfold ftP; split
 · exact lfP_len ..
 · simp
theorem leavesH_in {b : BrokerD} (hB : brokerB b = true) (n : Nat) : ∀ s ∈ (leavesH b.width b.log.entries).take n, s.size = b.width.toNat := fun s hs => by
 obtain ⟨hw, he, he2, _⟩ := broker_parts hB
 have := List.mem_of_mem_take hs
 rw [leavesH, List.mem_map] at this
 obtain ⟨e, h1, rfl⟩ := this
 exact leafH_size hw (he2 e h1)
end Go.Proofs.YtlgdghpnfclgpaaGreat
