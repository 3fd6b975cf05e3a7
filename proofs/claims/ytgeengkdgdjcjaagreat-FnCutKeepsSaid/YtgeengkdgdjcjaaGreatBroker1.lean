/-
  Broker0; Broker1: No condition.
-/
import Derived.Test.YtgeengkdgdjcjaaGreatLeaf
import Derived.Test.YtgeengkdgdjcjaaGreatLogs
import Derived.Test.YtgeengkdgdjcjaaGreatClientNw
namespace Go.Proofs.YtgeengkdgdjcjaaGreat
set_option linter.unusedSimpArgs false
open Go.RowKit
set_option linter.unusedVariables false
def allTo (p : Nat → Bool) : Nat → Bool
 | 0 => true
 | k + 1 => allTo p k && p k
theorem allTo_bad {p : Nat → Bool} {k : Nat} (h : p k = false) : ∀ n, k < n → allTo p n = false
 | 0, hn => absurd hn (by omega)
 | n + 1, hn => by
   by_cases e : k = n
   · subst e; rw [allTo, h, Bool.and_false]
   · rw [allTo, allTo_bad h n (by omega), Bool.false_and]
theorem allTo_good {p : Nat → Bool} {k : Nat} (h : allTo p k = true) (h2 : p k = true) : allTo p (k + 1) = true := by rw [allTo, h, h2]; rfl
theorem allTo_iff {p : Nat → Bool} : ∀ {n : Nat}, allTo p n = true ↔ ∀ k, k < n → p k = true
 | 0 => ⟨fun _ k h => absurd h (by omega), fun _ => rfl⟩
 | n + 1 => by
   rw [allTo, Bool.and_eq_true, allTo_iff (n := n)]
   refine ⟨fun h k hk => ?_, fun h => ⟨fun k hk => h k (by omega), h n (by omega)⟩⟩
   by_cases e : k = n
   · subst e; exact h.2
   · exact h.1 k (by omega)
def idxB {α : Type} (p : α → Bool) : List α → Int
 | [] => -1
 | x :: r => if p x then 0 else if idxB p r < 0 then -1 else idxB p r + 1
theorem idxB_none {α : Type} {p : α → Bool} : ∀ {l : List α}, (∀ x ∈ l, p x = false) → idxB p l = -1
 | [], _ => rfl
 | x :: r, h => by
   have := idxB_none (p := p) (l := r) (fun y hy => h y (by simp [hy]))
   rw [idxB, if_neg (by rw [h x (by simp)]; decide), if_pos (by omega)]
theorem idxB_at {α : Type} {p : α → Bool} : ∀ {l : List α} {k : Nat} {x : α}, l[k]? = some x → p x = true → (∀ y ∈ l.take k, p y = false) → idxB p l = (k : Int)
 | [], k, x, h, _, _ => by simp at h
 | y :: r, 0, x, h, hp, _ => by
   obtain rfl : y = x := by simpa using h
   rw [idxB, if_pos hp]; rfl
 | y :: r, k + 1, x, h, hp, hn => by
   have h1 := idxB_at (p := p) (l := r) (k := k) (x := x) (by simpa using h) hp (fun z hz => hn z (by simp [hz]))
   rw [idxB, if_neg (by rw [hn y (by simp)]; decide), if_neg (by omega), h1]; omega
theorem idxB_spec {α : Type} {p : α → Bool} : ∀ {l : List α} {k : Nat}, idxB p l = (k : Int) → ∃ x, l[k]? = some x ∧ p x = true ∧ ∀ y ∈ l.take k, p y = false
 | [], k, h => by rw [idxB] at h; omega
 | y :: r, k, h => by
   rw [idxB] at h
   split at h
   · rename_i hp
     obtain rfl : k = 0 := by omega
     exact ⟨y, rfl, hp, by simp⟩
   · rename_i hp
     split at h
     · omega
     · obtain ⟨m, rfl⟩ : ∃ m, k = m + 1 := ⟨k - 1, by omega⟩
       obtain ⟨x, h1, h2, h3⟩ := idxB_spec (p := p) (l := r) (k := m) (by omega)
       refine ⟨x, by simpa using h1, h2, fun z hz => ?_⟩
       rw [List.take_succ_cons, List.mem_cons] at hz
       rcases hz with rfl | hz
       · simpa using hp
       · exact h3 z hz
theorem idxB_neg {α : Type} {p : α → Bool} : ∀ {l : List α}, idxB p l < 0 → ∀ x ∈ l, p x = false
 | [], _, x, hx => by simp at hx
 | y :: r, h, x, hx => by
   rw [idxB] at h
   split at h
   · omega
   · rename_i hp
     split at h
     · rename_i h2
       rcases List.mem_cons.1 hx with rfl | hx
       · simpa using hp
       · exact idxB_neg h2 x hx
     · omega
theorem idxB_take {α : Type} {p : α → Bool} (l : List α) (n : Nat) : decide (0 ≤ idxB p (l.take n)) = (decide (0 ≤ idxB p l) && decide (idxB p l ≤ (n : Int) - 1)) := by
 rcases Int.lt_or_le (idxB p l) 0 with h | h
 · have := idxB_none (p := p) (l := l.take n) (fun x hx => idxB_neg h x (List.mem_of_mem_take hx))
   rw [this]
   have : ¬ 0 ≤ idxB p l := by omega
   simp [this]
 · obtain ⟨k, hk⟩ : ∃ k : Nat, idxB p l = (k : Int) := ⟨(idxB p l).toNat, by omega⟩
   obtain ⟨x, h1, h2, h3⟩ := idxB_spec hk
   have hkl : k < l.length := (List.getElem?_eq_some_iff.1 h1).1
   by_cases hn : k < n
   · have := idxB_at (p := p) (l := l.take n) (k := k) (x := x) (by rw [List.getElem?_take_of_lt hn]; exact h1) h2 (fun y hy => h3 y (by rw [List.take_take, Nat.min_eq_left (by omega)] at hy; exact hy))
     rw [this, hk]
     have e1 : (0 : Int) ≤ (k : Int) := by omega
     have e2 : (k : Int) ≤ (n : Int) - 1 := by omega
     simp only [e1, e2, decide_true, Bool.and_self]
   · have := idxB_none (p := p) (l := l.take n) (fun y hy => h3 y (by
      have : l.take n = (l.take k).take n := by rw [List.take_take, Nat.min_eq_left (by omega)]
      rw [this] at hy
      exact List.mem_of_mem_take hy))
     rw [this, hk]
     have e2 : ¬ (k : Int) ≤ (n : Int) - 1 := by omega
     simp [e2]
def logAt (l : List EntryD) (i : Nat) : Bool := match l[i]? with
 | some d => entryOk d && ((cntT (l.take i) d.topic : Int) == d.index)
 | none => false
def logOk (l : List EntryD) : Bool := decide (l.length ≤ 512) && allTo (logAt l) l.length
def recAt (l : List ReceiptD) (i : Nat) : Bool := match l[i]? with
 | some r => receiptOk r && (idxB (fun x => x.eqb r) l == (i : Int))
 | none => false
def recsOk (l : List ReceiptD) : Bool := decide (l.length ≤ 512) && allTo (recAt l) l.length
def followsB (n : Int) (a b : HeadD) : Bool := headOk n a && headOk n b && decide (a.number < b.number) && decide (a.size ≤ b.size) && decide (a.taken ≤ b.taken) && !parted a b
def headAt (n : Int) (l : List HeadD) (i : Nat) : Bool := match l[i]? with
 | some h => headOk n h && (h.number == (i : Int)) && (match i with
   | 0 => true
   | j + 1 => match l[j]? with
     | some g => followsB n g h
     | none => false)
 | none => false
def headsOk (n : Int) (l : List HeadD) : Bool := inR n 1 32 && decide (l.length ≤ 400) && allTo (headAt n l) l.length
def rangeOf (w : Int) (l : List ByteArray) : RangeD := ⟨l.length, (peaksOf (ndB w) l).reverse⟩
def sealAt (w : Int) (L T : List ByteArray) (hs : List HeadD) (i : Nat) : Bool := match hs[i]? with
 | some h => decide (h.size ≤ L.length) && decide (h.taken ≤ T.length) && (h.root.toList == (treeR w (L.take h.size.toNat)).toList) && (h.takenRoot.toList == (treeR w (T.take h.taken.toNat)).toList)
 | none => false
def hz : HeadD := ⟨0, 0, ⟨#[]⟩, 0, ⟨#[]⟩⟩
def lastH (hs : List HeadD) : HeadD := hs.getLastD hz
def leavesH (w : Int) (l : List EntryD) : List ByteArray := l.map (leafH w)
def takenH (w : Int) (l : List ReceiptD) : List ByteArray := l.map (recH w)
def sealOfH (w : Int) (L T : List ByteArray) (h : HeadD) : SealD := ⟨rangeOf w (L.take h.size.toNat), rangeOf w (T.take h.taken.toNat), h⟩
def ofTI (t : ByteArray) (i : Int) (e : EntryD) : Bool := (e.topic.toList == t.toList) && (e.index == i)
def readAt (b : BrokerD) (i : Nat) : Bool := match b.receipts[i]? with
 | some r => decide (0 ≤ idxB (ofTI r.topic r.index) (b.log.entries.take (lastH b.heads).size.toNat))
 | none => false
def brkParts (b : BrokerD) : Bool :=
 inR b.width 1 32 && logOk b.log.entries && recsOk b.receipts && decide (0 < b.heads.length) && headsOk b.width b.heads && ((b.heads.headD hz).eqb (newH true b.width)) &&
 allTo (sealAt b.width (leavesH b.width b.log.entries) (takenH b.width b.receipts) b.heads) b.heads.length && allTo (readAt b) b.receipts.length
def peaksB (a b : List ByteArray) : Bool := a.map ByteArray.toList == b.map ByteArray.toList
def sameRangeB (a b : RangeD) : Bool := (a.size == b.size) && peaksB a.peaks b.peaks
def sameSealB (a b : SealD) : Bool := sameRangeB a.leaves b.leaves && sameRangeB a.taken b.taken && a.head.eqb b.head
def brokerB (b : BrokerD) : Bool := brkParts b && sameSealB (sealOfH b.width (leavesH b.width b.log.entries) (takenH b.width b.receipts) (lastH b.heads)) b.sealed
theorem bytes_toList {a b : ByteArray} : a.toList = b.toList ↔ a = b := bytes_eq_iff
theorem peaksB_iff {a b : List ByteArray} : peaksB a b = true ↔ a = b := by
 unfold peaksB
 rw [beq_iff_eq]
 refine ⟨fun h => ?_, fun h => by rw [h]⟩
 induction a generalizing b with
 | nil => cases b with
   | nil => rfl
   | cons y b => simp at h
 | cons x a ih => cases b with
   | nil => simp at h
   | cons y b =>
     simp only [List.map_cons, List.cons.injEq] at h
     rw [bytes_toList.1 h.1, ih h.2]
theorem sameRangeB_iff {a b : RangeD} : sameRangeB a b = true ↔ a = b := by
 obtain ⟨s, p⟩ := a
 obtain ⟨t, q⟩ := b
 simp [sameRangeB, peaksB_iff]
theorem sameSealB_iff {a b : SealD} : sameSealB a b = true ↔ a = b := by
 obtain ⟨s, p, h⟩ := a
 obtain ⟨t, q, g⟩ := b
 simp [sameSealB, sameRangeB_iff, HeadD.eqb_iff, and_assoc]
theorem leafH_size {w : Int} {e : EntryD} (hw : inR w 1 32 = true) (he : entryOk e = true) : (leafH w e).size = w.toNat := by
 rw [(leafH_yes he).1]
 have := leafText_size e
 exact digest_size (by rw [digestOk, hw]; simp [inR]; omega)
theorem recH_size {w : Int} {e : ReceiptD} (hw : inR w 1 32 = true) (he : receiptOk e = true) : (recH w e).size = w.toNat := by
 rw [(recH_yes he).1]
 have := receiptText_size e
 exact digest_size (by rw [digestOk, hw]; simp [inR]; omega)
theorem logOk_all {l : List EntryD} (h : logOk l = true) : l.length ≤ 512 ∧ ∀ e ∈ l, entryOk e = true := by
 simp only [logOk, Bool.and_eq_true, decide_eq_true_eq, allTo_iff] at h
 refine ⟨h.1, fun e he => ?_⟩
 obtain ⟨i, hi⟩ := List.getElem?_of_mem he
 have := h.2 i (List.getElem?_eq_some_iff.1 hi).1
 rw [logAt, hi, Bool.and_eq_true] at this
 exact this.1
theorem recsOk_all {l : List ReceiptD} (h : recsOk l = true) : l.length ≤ 512 ∧ ∀ e ∈ l, receiptOk e = true := by
 simp only [recsOk, Bool.and_eq_true, decide_eq_true_eq, allTo_iff] at h
 refine ⟨h.1, fun e he => ?_⟩
 obtain ⟨i, hi⟩ := List.getElem?_of_mem he
 have := h.2 i (List.getElem?_eq_some_iff.1 hi).1
 rw [recAt, hi, Bool.and_eq_true] at this
 exact this.1
theorem leavesH_size {w : Int} {l : List EntryD} (hw : inR w 1 32 = true) (h : logOk l = true) : ∀ s ∈ leavesH w l, s.size = w.toNat := by
 intro s hs
 obtain ⟨e, he, rfl⟩ := List.mem_map.1 hs
 exact leafH_size hw ((logOk_all h).2 e he)
theorem takenH_size {w : Int} {l : List ReceiptD} (hw : inR w 1 32 = true) (h : recsOk l = true) : ∀ s ∈ takenH w l, s.size = w.toNat := by
 intro s hs
 obtain ⟨e, he, rfl⟩ := List.mem_map.1 hs
 exact recH_size hw ((recsOk_all h).2 e he)
section
variable {α : Type} {nd : α → α → α} {e : α} {P : α → Prop}
theorem carryN_nil (n : Nat) (v : α) : carryN nd n [] v = [v] := by
 unfold carryN
 cases n <;> rfl
theorem carry_all (hnd : ∀ a b, P a → P b → P (nd a b)) : ∀ (n : Nat) (s : List α) (v : α), (∀ x ∈ s, P x) → P v → ∀ x ∈ carryN nd n s v, P x := by
 intro n
 induction n using Nat.strongRecOn with
 | _ n ih =>
   intro s v hs hv
   rcases Nat.mod_two_eq_zero_or_one n with h | h
   · rw [carryN_even nd h]
     intro x hx
     rcases List.mem_cons.1 hx with rfl | hx
     · exact hv
     · exact hs x hx
   · match s, hs with
     | [], _ =>
       rw [carryN_nil]
       intro x hx
       obtain rfl := List.mem_singleton.1 hx
       exact hv
     | p :: r, hs =>
       rw [carryN_odd nd h]
       exact ih (n / 2) (by omega) r _ (fun x hx => hs x (by simp [hx])) (hnd _ _ (hs p (by simp)) hv)
theorem growL_all (hnd : ∀ a b, P a → P b → P (nd a b)) : ∀ (r : List α) (n : Nat) (s : List α), (∀ x ∈ s, P x) → (∀ x ∈ r, P x) → ∀ x ∈ growL nd n s r, P x
 | [], n, s, hs, _ => hs
 | y :: r, n, s, hs, hr => by
   rw [growL_cons]
   exact growL_all hnd r _ _ (carry_all hnd n s y hs (hr y (by simp))) (fun x hx => hr x (by simp [hx]))
theorem peaks_all (hnd : ∀ a b, P a → P b → P (nd a b)) (l : List α) (h : ∀ x ∈ l, P x) : ∀ x ∈ peaksOf nd l, P x := growL_all hnd l 0 [] (by simp) h
theorem peaks_take (L : List α) {a b : Nat} (hab : a ≤ b) (hb : b ≤ L.length) : growL nd a (peaksOf nd (L.take a)) ((L.drop a).take (b - a)) = peaksOf nd (L.take b) := by
 have e1 : L.take b = L.take a ++ (L.drop a).take (b - a) := by
  rw [show b = a + (b - a) by omega, List.take_add, show a + (b - a) - a = b - a by omega]
 rw [e1, peaks_append, List.length_take, Nat.min_eq_left (by omega)]
end
theorem pc_pos : ∀ {n : Nat}, 0 < n → 0 < pc n := by
 intro n
 induction n using Nat.strongRecOn with
 | _ n ih =>
   intro h
   rw [pc_step]
   rcases Nat.mod_two_eq_zero_or_one n with h1 | h1
   · have := ih (n / 2) (by omega) (by omega); omega
   · omega
theorem pc_more {m : Nat} : pc m + 1 > pc (m + 1) ↔ m % 2 = 1 := by
 rcases Nat.mod_two_eq_zero_or_one m with h | h
 · rw [pc_even h]; omega
 · obtain ⟨h1, h2⟩ := pc_odd h
   have := pc_next (m / 2)
   rw [h1, h2]; omega
def WdT (w : Int) (s : ByteArray) : Prop := s.size = w.toNat
theorem ndB_wd {w : Int} (hw : inR w 1 32 = true) : ∀ a b, WdT w a → WdT w b → WdT w (ndB w a b) := by
 intro a b ha hb
 unfold WdT at *
 have hw2 := inR_true hw
 refine nodeT_size hw ?_
 rw [ByteArray.size_append, ha, hb]; omega
theorem peaks_wd {w : Int} (hw : inR w 1 32 = true) {l : List ByteArray} (h : ∀ x ∈ l, WdT w x) : ∀ x ∈ peaksOf (ndB w) l, WdT w x := peaks_all (ndB_wd hw) l h
def rootR (w : Int) (r : RangeD) : ByteArray := rootS (ndB w) (emptyR w) r.peaks.reverse
def rangeOkB (w : Int) (r : RangeD) : Bool := inR r.size 0 512 && decide (r.peaks.length = pc r.size.toNat) && (hashes w r.peaks && inR w 1 32)
def sealOkB (w : Int) (s : SealD) : Bool := rangeOkB w s.leaves && rangeOkB w s.taken && headOk w s.head && (s.head.size == s.leaves.size) && (s.head.root.toList == (rootR w s.leaves).toList) && (s.head.taken == s.taken.size) && (s.head.takenRoot.toList == (rootR w s.taken).toList)
theorem rangeOf_ok {w : Int} (hw : inR w 1 32 = true) {l : List ByteArray} (hl : l.length ≤ 512) (h : ∀ x ∈ l, WdT w x) : rangeOkB w (rangeOf w l) = true := by
 have hw2 := inR_true hw
 have h1 := peaks_wd hw h
 simp only [rangeOkB, rangeOf, hw, Bool.and_true, Bool.and_eq_true, decide_eq_true_eq, hashes, List.all_eq_true, List.mem_reverse, beq_iff_eq, List.length_reverse, peaks_len, Int.toNat_natCast]
 refine ⟨⟨by simp [inR]; omega, trivial⟩, fun x hx => ?_⟩
 have := h1 x hx
 unfold WdT at this
 omega
theorem rangeOf_root {w : Int} (l : List ByteArray) : rootR w (rangeOf w l) = treeR w l := by
 unfold rootR rangeOf treeR
 rw [List.reverse_reverse]
 exact peaks_root _ _ l
theorem seal_of {w : Int} {L T : List ByteArray} {h : HeadD} (hw : inR w 1 32 = true) (hL : ∀ x ∈ L, WdT w x) (hT : ∀ x ∈ T, WdT w x) (hok : headOk w h = true) (h1 : h.size ≤ L.length) (h2 : h.taken ≤ T.length) (h3 : h.root = treeR w (L.take h.size.toNat)) (h4 : h.takenRoot = treeR w (T.take h.taken.toNat)) : sealOkB w (sealOfH w L T h) = true := by
 have hk := hok
 simp only [headOk, rootB, Bool.and_eq_true] at hk
 have r1 := inR_true hk.1.2.1.1
 have r2 := inR_true hk.2.1.1
 have t1 : (L.take h.size.toNat).length = h.size.toNat := by rw [List.length_take]; omega
 have t2 : (T.take h.taken.toNat).length = h.taken.toNat := by rw [List.length_take]; omega
 simp only [sealOkB, sealOfH, Bool.and_eq_true, beq_iff_eq]
 refine ⟨⟨⟨⟨⟨⟨rangeOf_ok hw (by omega) (fun x hx => hL x (List.mem_of_mem_take hx)), rangeOf_ok hw (by omega) (fun x hx => hT x (List.mem_of_mem_take hx))⟩, hok⟩, ?_⟩, ?_⟩, ?_⟩, ?_⟩
 · simp only [rangeOf, t1]; omega
 · rw [rangeOf_root, ← h3]
 · simp only [rangeOf, t2]; omega
 · rw [rangeOf_root, ← h4]
theorem headAt_ok {n : Int} {l : List HeadD} {k : Nat} {h : HeadD} (hd : l[k]? = some h) (ha : headAt n l k = true) : headOk n h = true ∧ h.number = (k : Int) := by
 rw [headAt, hd] at ha
 simp only [Bool.and_eq_true, beq_iff_eq] at ha
 exact ha.1
theorem headAt_up {n : Int} {l : List HeadD} {j : Nat} {g h : HeadD} (hg : l[j]? = some g) (hd : l[j + 1]? = some h) (ha : headAt n l (j + 1) = true) : g.size ≤ h.size ∧ g.taken ≤ h.taken := by
 rw [headAt, hd] at ha
 simp only [hg, Bool.and_eq_true, followsB, decide_eq_true_eq] at ha
 exact ⟨ha.2.1.1.2, ha.2.1.2⟩
theorem headsOk_all {n : Int} {l : List HeadD} (h : headsOk n l = true) : inR n 1 32 = true ∧ l.length ≤ 400 ∧ ∀ k, k < l.length → headAt n l k = true := by
 simp only [headsOk, Bool.and_eq_true, decide_eq_true_eq] at h
 exact ⟨h.1.1, h.1.2, allTo_iff.1 h.2⟩
theorem headOk_in {n : Int} {h : HeadD} (hok : headOk n h = true) : 0 ≤ h.size ∧ h.size ≤ 512 ∧ 0 ≤ h.taken ∧ h.taken ≤ 512 ∧ h.root.size = n.toNat ∧ h.takenRoot.size = n.toNat := by
 simp only [headOk, rootB, Bool.and_eq_true, beq_iff_eq] at hok
 have r0 := inR_true hok.1.1.1
 have r1 := inR_true hok.1.2.1.1
 have r2 := inR_true hok.2.1.1
 have r3 := hok.1.2.1.2
 have r4 := hok.2.1.2
 omega
theorem last_at {hs : List HeadD} (h0 : 0 < hs.length) : hs[hs.length - 1]? = some (lastH hs) := by
 unfold lastH
 rw [List.getLastD_eq_getLast?, List.getLast?_eq_getElem?]
 rw [List.getElem?_eq_getElem (by omega)]; rfl
theorem broker_spec (b : BrokerD) (h : brkParts b = true) :
 (sealOkB b.width b.sealed && b.sealed.head.eqb (lastH b.heads) && sameRangeB b.sealed.leaves (rangeOf b.width ((leavesH b.width b.log.entries).take (lastH b.heads).size.toNat)) && sameRangeB b.sealed.taken (rangeOf b.width ((takenH b.width b.receipts).take (lastH b.heads).taken.toNat))) = brokerB b := by
 have hp := h
 simp only [brkParts, Bool.and_eq_true, decide_eq_true_eq] at h
 obtain ⟨⟨⟨⟨⟨⟨⟨hw, hlog⟩, hrec⟩, h0⟩, hh⟩, hz0⟩, hsl⟩, hrd⟩ := h
 obtain ⟨_, _, hall⟩ := headsOk_all hh
 have hl := last_at h0
 obtain ⟨ok, _⟩ := headAt_ok hl (hall _ (by omega))
 have sl := allTo_iff.1 hsl (b.heads.length - 1) (by omega)
 rw [sealAt, hl] at sl
 simp only [Bool.and_eq_true, decide_eq_true_eq, beq_iff_eq, bytes_toList] at sl
 obtain ⟨⟨⟨q1, q2⟩, q3⟩, q4⟩ := sl
 have so := seal_of hw (leavesH_size hw hlog) (takenH_size hw hrec) ok q1 q2 q3 q4
 rw [brokerB, hp, Bool.true_and, Bool.eq_iff_iff, sameSealB_iff]
 simp only [Bool.and_eq_true, sameRangeB_iff, HeadD.eqb_iff]
 refine ⟨fun ⟨⟨⟨k0, k1⟩, k2⟩, k3⟩ => ?_, fun k => ?_⟩
 · unfold sealOfH
   rw [← k1, k1, ← k2, ← k3, ← k1]
 · rw [← k]
   exact ⟨⟨⟨so, rfl⟩, rfl⟩, rfl⟩
def sealPrev (w : Int) (L T : List ByteArray) (hs : List HeadD) : Nat → SealD
 | 0 => ⟨⟨0, []⟩, ⟨0, []⟩, newH true w⟩
 | j + 1 => match hs[j]? with
   | some h => sealOfH w L T h
   | none => ⟨⟨0, []⟩, ⟨0, []⟩, newH true w⟩
theorem sealPrev_next {w : Int} {L T : List ByteArray} {hs : List HeadD} {j : Nat} {g : HeadD} (hg : hs[j]? = some g) : sealPrev w L T hs (j + 1) = sealOfH w L T g := by rw [sealPrev, hg]
def moreS (w : Int) (s : SealD) (a b : List ByteArray) : SealD :=
 let x : RangeD := ⟨s.leaves.size + a.length, (growL (ndB w) s.leaves.size.toNat s.leaves.peaks.reverse a).reverse⟩
 let y : RangeD := ⟨s.taken.size + b.length, (growL (ndB w) s.taken.size.toNat s.taken.peaks.reverse b).reverse⟩
 ⟨x, y, ⟨s.head.number + 1, x.size, rootR w x, y.size, rootR w y⟩⟩
theorem moreS_of {w : Int} {L T : List ByteArray} {g h : HeadD} (g1 : 0 ≤ g.size) (g2 : 0 ≤ g.taken) (h1 : g.size ≤ h.size) (h2 : g.taken ≤ h.taken) (h3 : h.size ≤ L.length) (h4 : h.taken ≤ T.length) (hn : h.number = g.number + 1) :
 moreS w (sealOfH w L T g) ((L.drop g.size.toNat).take (h.size.toNat - g.size.toNat)) ((T.drop g.taken.toNat).take (h.taken.toNat - g.taken.toNat)) =
 ⟨rangeOf w (L.take h.size.toNat), rangeOf w (T.take h.taken.toNat), ⟨h.number, h.size, treeR w (L.take h.size.toNat), h.taken, treeR w (T.take h.taken.toNat)⟩⟩ := by
 have t1 : (L.take g.size.toNat).length = g.size.toNat := by rw [List.length_take]; omega
 have t2 : (T.take g.taken.toNat).length = g.taken.toNat := by rw [List.length_take]; omega
 have e1 := peaks_take (nd := ndB w) L (a := g.size.toNat) (b := h.size.toNat) (by omega) (by omega)
 have e2 := peaks_take (nd := ndB w) T (a := g.taken.toNat) (b := h.taken.toNat) (by omega) (by omega)
 have u1 : (L.take h.size.toNat).length = h.size.toNat := by rw [List.length_take]; omega
 have u2 : (T.take h.taken.toNat).length = h.taken.toNat := by rw [List.length_take]; omega
 have v1 : (((L.drop g.size.toNat).take (h.size.toNat - g.size.toNat)).length : Int) = h.size - g.size := by rw [List.length_take, List.length_drop]; omega
 have v2 : (((T.drop g.taken.toNat).take (h.taken.toNat - g.taken.toNat)).length : Int) = h.taken - g.taken := by rw [List.length_take, List.length_drop]; omega
 have x1 : (⟨(rangeOf w (L.take g.size.toNat)).size + ((L.drop g.size.toNat).take (h.size.toNat - g.size.toNat)).length, (growL (ndB w) (rangeOf w (L.take g.size.toNat)).size.toNat (rangeOf w (L.take g.size.toNat)).peaks.reverse ((L.drop g.size.toNat).take (h.size.toNat - g.size.toNat))).reverse⟩ : RangeD) = rangeOf w (L.take h.size.toNat) := by
  simp only [rangeOf, t1, u1, v1, List.reverse_reverse, Int.toNat_natCast, e1, RangeD.mk.injEq, and_true]
  omega
 have x2 : (⟨(rangeOf w (T.take g.taken.toNat)).size + ((T.drop g.taken.toNat).take (h.taken.toNat - g.taken.toNat)).length, (growL (ndB w) (rangeOf w (T.take g.taken.toNat)).size.toNat (rangeOf w (T.take g.taken.toNat)).peaks.reverse ((T.drop g.taken.toNat).take (h.taken.toNat - g.taken.toNat))).reverse⟩ : RangeD) = rangeOf w (T.take h.taken.toNat) := by
  simp only [rangeOf, t2, u2, v2, List.reverse_reverse, Int.toNat_natCast, e2, RangeD.mk.injEq, and_true]
  omega
 unfold moreS sealOfH
 simp only [x1, x2, rangeOf_root, ← hn]
 have y1 : (rangeOf w (L.take g.size.toNat)).size + (((L.drop g.size.toNat).take (h.size.toNat - g.size.toNat)).length : Int) = h.size := by simp only [rangeOf, t1, v1]; omega
 have y2 : (rangeOf w (T.take g.taken.toNat)).size + (((T.drop g.taken.toNat).take (h.taken.toNat - g.taken.toNat)).length : Int) = h.taken := by simp only [rangeOf, t2, v2]; omega
 rw [y1, y2]
theorem seal_round {w : Int} {L T : List ByteArray} {hs : List HeadD} {j : Nat} {g h : HeadD} (hok : headsOk w hs = true) (hg : hs[j]? = some g) (hd : hs[j + 1]? = some h) (h3 : h.size ≤ L.length) (h4 : h.taken ≤ T.length) :
 let s := moreS w (sealPrev w L T hs (j + 1)) ((L.drop g.size.toNat).take (h.size.toNat - g.size.toNat)) ((T.drop g.taken.toNat).take (h.taken.toNat - g.taken.toNat))
 s.head.eqb h = sealAt w L T hs (j + 1) ∧ (s.head.eqb h = true → s = sealPrev w L T hs (j + 2)) := by
 obtain ⟨_, _, hall⟩ := headsOk_all hok
 have a1 := headAt_ok hg (hall _ (List.getElem?_eq_some_iff.1 hg).1)
 have a2 := headAt_ok hd (hall _ (List.getElem?_eq_some_iff.1 hd).1)
 have a3 := headAt_up hg hd (hall _ (List.getElem?_eq_some_iff.1 hd).1)
 have a4 := headOk_in a1.1
 have hm := moreS_of (w := w) (L := L) (T := T) (g := g) (h := h) a4.1 a4.2.2.1 a3.1 a3.2 h3 h4 (by rw [a1.2, a2.2]; omega)
 simp only
 rw [sealPrev_next hg, hm, sealAt, hd]
 have e : HeadD.eqb ⟨h.number, h.size, treeR w (L.take h.size.toNat), h.taken, treeR w (T.take h.taken.toNat)⟩ h = (decide (h.size ≤ L.length) && decide (h.taken ≤ T.length) && (h.root.toList == (treeR w (L.take h.size.toNat)).toList) && (h.takenRoot.toList == (treeR w (T.take h.taken.toNat)).toList)) := by
  rw [Bool.eq_iff_iff, HeadD.eqb_iff]
  simp only [Bool.and_eq_true, decide_eq_true_eq, beq_iff_eq, bytes_toList]
  refine ⟨fun k => ?_, fun k => ?_⟩
  · rw [← k]; exact ⟨⟨⟨h3, h4⟩, rfl⟩, rfl⟩
  · obtain ⟨⟨_, k1⟩, k2⟩ := k
    rw [← k1, ← k2]
 refine ⟨e, fun k => ?_⟩
 have k2 : (⟨h.number, h.size, treeR w (L.take h.size.toNat), h.taken, treeR w (T.take h.taken.toNat)⟩ : HeadD) = h := (HeadD.eqb_iff _ _).1 k
 rw [sealPrev_next hd]
 exact congrArg (fun x => (⟨rangeOf w (L.take h.size.toNat), rangeOf w (T.take h.taken.toNat), x⟩ : SealD)) k2
theorem seal_zero {w : Int} {L T : List ByteArray} {hs : List HeadD} {h : HeadD} (hd : hs[0]? = some h) (he : h = newH true w) : sealAt w L T hs 0 = true ∧ sealPrev w L T hs 1 = ⟨⟨0, []⟩, ⟨0, []⟩, newH true w⟩ := by
 subst he
 refine ⟨?_, ?_⟩
 · rw [sealAt, hd]
   simp [newH_yes, treeR, mroot_nil]
 · rw [sealPrev_next hd]
   simp [sealOfH, newH_yes, rangeOf, peaksOf]
end Go.Proofs.YtgeengkdgdjcjaaGreat
