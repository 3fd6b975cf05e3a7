/-
  Broker0: No condition.
-/
import Derived.Test.YthnpdoadmglipaaGreatAppSrc
import Derived.Test.YthnpdoadmglipaaGreatLogs
import Derived.Test.YthnpdoadmglipaaGreatClientNw
namespace Go.Proofs.YthnpdoadmglipaaGreat
set_option linter.unusedSimpArgs false
open Go.RowKit
set_option linter.unusedVariables false
def allTo (p : Nat → Bool) : Nat → Bool
 | 0 => true
 | k + 1 => allTo p k && p k
theorem allTo_bad {p : Nat → Bool} {k : Nat} (h : p k = false) : ∀ n, k < n → allTo p n = false
 | 0, hn => absurd hn (by omega)
 | n + 1, hn => by
   by_cases e : k = n
   · subst e; rw [allTo, h, Bool.and_false]
   · rw [allTo, allTo_bad h n (by omega), Bool.false_and]
theorem allTo_good {p : Nat → Bool} {k : Nat} (h : allTo p k = true) (h2 : p k = true) : allTo p (k + 1) = true := by rw [allTo, h, h2]; rfl
theorem allTo_iff {p : Nat → Bool} : ∀ {n : Nat}, allTo p n = true ↔ ∀ k, k < n → p k = true
 | 0 => ⟨fun _ k h => absurd h (by omega), fun _ => rfl⟩
 | n + 1 => by
   rw [allTo, Bool.and_eq_true, allTo_iff (n := n)]
   refine ⟨fun h k hk => ?_, fun h => ⟨fun k hk => h k (by omega), h n (by omega)⟩⟩
   by_cases e : k = n
   · subst e; exact h.2
   · exact h.1 k (by omega)
def idxB {α : Type} (p : α → Bool) : List α → Int
 | [] => -1
 | x :: r => if p x then 0 else if idxB p r < 0 then -1 else idxB p r + 1
theorem idxB_none {α : Type} {p : α → Bool} : ∀ {l : List α}, (∀ x ∈ l, p x = false) → idxB p l = -1
 | [], _ => rfl
 | x :: r, h => by
   have := idxB_none (p := p) (l := r) (fun y hy => h y (by simp [hy]))
   rw [idxB, if_neg (by rw [h x (by simp)]; decide), if_pos (by omega)]
theorem idxB_at {α : Type} {p : α → Bool} : ∀ {l : List α} {k : Nat} {x : α}, l[k]? = some x → p x = true → (∀ y ∈ l.take k, p y = false) → idxB p l = (k : Int)
 | [], k, x, h, _, _ => by simp at h
 | y :: r, 0, x, h, hp, _ => by
   obtain rfl : y = x := by simpa using h
   rw [idxB, if_pos hp]; rfl
 | y :: r, k + 1, x, h, hp, hn => by
   have h1 := idxB_at (p := p) (l := r) (k := k) (x := x) (by simpa using h) hp (fun z hz => hn z (by simp [hz]))
   rw [idxB, if_neg (by rw [hn y (by simp)]; decide), if_neg (by omega), h1]; omega
theorem idxB_spec {α : Type} {p : α → Bool} : ∀ {l : List α} {k : Nat}, idxB p l = (k : Int) → ∃ x, l[k]? = some x ∧ p x = true ∧ ∀ y ∈ l.take k, p y = false
 | [], k, h => by rw [idxB] at h; omega
 | y :: r, k, h => by
   rw [idxB] at h
   split at h
   · rename_i hp
     obtain rfl : k = 0 := by omega
     exact ⟨y, rfl, hp, by simp⟩
   · rename_i hp
     split at h
     · omega
     · obtain ⟨m, rfl⟩ : ∃ m, k = m + 1 := ⟨k - 1, by omega⟩
       obtain ⟨x, h1, h2, h3⟩ := idxB_spec (p := p) (l := r) (k := m) (by omega)
       refine ⟨x, by simpa using h1, h2, fun z hz => ?_⟩
       rw [List.take_succ_cons, List.mem_cons] at hz
       rcases hz with rfl | hz
       · simpa using hp
       · exact h3 z hz
theorem idxB_neg {α : Type} {p : α → Bool} : ∀ {l : List α}, idxB p l < 0 → ∀ x ∈ l, p x = false
 | [], _, x, hx => by simp at hx
 | y :: r, h, x, hx => by
   rw [idxB] at h
   split at h
   · omega
   · rename_i hp
     split at h
     · rename_i h2
       rcases List.mem_cons.1 hx with rfl | hx
       · simpa using hp
       · exact idxB_neg h2 x hx
     · omega
theorem idxB_take {α : Type} {p : α → Bool} (l : List α) (n : Nat) : decide (0 ≤ idxB p (l.take n)) = (decide (0 ≤ idxB p l) && decide (idxB p l ≤ (n : Int) - 1)) := by
 rcases Int.lt_or_le (idxB p l) 0 with h | h
 · have := idxB_none (p := p) (l := l.take n) (fun x hx => idxB_neg h x (List.mem_of_mem_take hx))
   rw [this]
   have : ¬ 0 ≤ idxB p l := by omega
   simp [this]
 · obtain ⟨k, hk⟩ : ∃ k : Nat, idxB p l = (k : Int) := ⟨(idxB p l).toNat, by omega⟩
   obtain ⟨x, h1, h2, h3⟩ := idxB_spec hk
   have hkl : k < l.length := (List.getElem?_eq_some_iff.1 h1).1
   by_cases hn : k < n
   · have := idxB_at (p := p) (l := l.take n) (k := k) (x := x) (by rw [List.getElem?_take_of_lt hn]; exact h1) h2 (fun y hy => h3 y (by rw [List.take_take, Nat.min_eq_left (by omega)] at hy; exact hy))
     rw [this, hk]
     have e1 : (0 : Int) ≤ (k : Int) := by omega
     have e2 : (k : Int) ≤ (n : Int) - 1 := by omega
     simp only [e1, e2, decide_true, Bool.and_self]
   · have := idxB_none (p := p) (l := l.take n) (fun y hy => h3 y (by
      have : l.take n = (l.take k).take n := by rw [List.take_take, Nat.min_eq_left (by omega)]
      rw [this] at hy
      exact List.mem_of_mem_take hy))
     rw [this, hk]
     have e2 : ¬ (k : Int) ≤ (n : Int) - 1 := by omega
     simp [e2]
def logAt (l : List EntryD) (i : Nat) : Bool := match l[i]? with
 | some d => entryOk d && ((cntT (l.take i) d.topic : Int) == d.index)
 | none => false
def logOk (l : List EntryD) : Bool := decide (l.length ≤ 512) && allTo (logAt l) l.length
def recAt (l : List ReceiptD) (i : Nat) : Bool := match l[i]? with
 | some r => receiptOk r && (idxB (fun x => x.eqb r) l == (i : Int))
 | none => false
def recsOk (l : List ReceiptD) : Bool := decide (l.length ≤ 512) && allTo (recAt l) l.length
def followsB (n : Int) (a b : HeadD) : Bool := headOk n a && headOk n b && decide (a.number < b.number) && decide (a.size ≤ b.size) && decide (a.taken ≤ b.taken) && !parted a b
def headAt (n : Int) (l : List HeadD) (i : Nat) : Bool := match l[i]? with
 | some h => headOk n h && (h.number == (i : Int)) && (match i with
   | 0 => true
   | j + 1 => match l[j]? with
     | some g => followsB n g h
     | none => false)
 | none => false
def headsOk (n : Int) (l : List HeadD) : Bool := inR n 1 32 && decide (l.length ≤ 400) && allTo (headAt n l) l.length
def ndB (w : Int) (a b : ByteArray) : ByteArray := nodeT w (a ++ b)
def treeR (w : Int) (l : List ByteArray) : ByteArray := mroot (ndB w) (emptyR w) l
def rangeOf (w : Int) (l : List ByteArray) : RangeD := ⟨l.length, (peaksOf (ndB w) l).reverse⟩
def sealAt (w : Int) (L T : List ByteArray) (hs : List HeadD) (i : Nat) : Bool := match hs[i]? with
 | some h => decide (h.size ≤ L.length) && decide (h.taken ≤ T.length) && (h.root.toList == (treeR w (L.take h.size.toNat)).toList) && (h.takenRoot.toList == (treeR w (T.take h.taken.toNat)).toList)
 | none => false
def hz : HeadD := ⟨0, 0, ⟨#[]⟩, 0, ⟨#[]⟩⟩
def lastH (hs : List HeadD) : HeadD := hs.getLastD hz
def leavesH (w : Int) (l : List EntryD) : List ByteArray := l.map (leafH w)
def takenH (w : Int) (l : List ReceiptD) : List ByteArray := l.map (recH w)
def sealOfH (w : Int) (L T : List ByteArray) (h : HeadD) : SealD := ⟨rangeOf w (L.take h.size.toNat), rangeOf w (T.take h.taken.toNat), h⟩
def ofTI (t : ByteArray) (i : Int) (e : EntryD) : Bool := (e.topic.toList == t.toList) && (e.index == i)
def readAt (b : BrokerD) (i : Nat) : Bool := match b.receipts[i]? with
 | some r => decide (0 ≤ idxB (ofTI r.topic r.index) (b.log.entries.take (lastH b.heads).size.toNat))
 | none => false
def brkParts (b : BrokerD) : Bool :=
 inR b.width 1 32 && logOk b.log.entries && recsOk b.receipts && decide (0 < b.heads.length) && headsOk b.width b.heads && ((b.heads.headD hz).eqb (newH true b.width)) &&
 allTo (sealAt b.width (leavesH b.width b.log.entries) (takenH b.width b.receipts) b.heads) b.heads.length && allTo (readAt b) b.receipts.length
def peaksB (a b : List ByteArray) : Bool := a.map ByteArray.toList == b.map ByteArray.toList
def sameRangeB (a b : RangeD) : Bool := (a.size == b.size) && peaksB a.peaks b.peaks
def sameSealB (a b : SealD) : Bool := sameRangeB a.leaves b.leaves && sameRangeB a.taken b.taken && a.head.eqb b.head
def brokerB (b : BrokerD) : Bool := brkParts b && sameSealB (sealOfH b.width (leavesH b.width b.log.entries) (takenH b.width b.receipts) (lastH b.heads)) b.sealed
theorem bytes_toList {a b : ByteArray} : a.toList = b.toList ↔ a = b := bytes_eq_iff
theorem peaksB_iff {a b : List ByteArray} : peaksB a b = true ↔ a = b := by
 unfold peaksB
 rw [beq_iff_eq]
 refine ⟨fun h => ?_, fun h => by rw [h]⟩
 induction a generalizing b with
 | nil => cases b with
   | nil => rfl
   | cons y b => simp at h
 | cons x a ih => cases b with
   | nil => simp at h
   | cons y b =>
     simp only [List.map_cons, List.cons.injEq] at h
     rw [bytes_toList.1 h.1, ih h.2]
theorem sameRangeB_iff {a b : RangeD} : sameRangeB a b = true ↔ a = b := by
 obtain ⟨s, p⟩ := a
 obtain ⟨t, q⟩ := b
 simp [sameRangeB, peaksB_iff]
theorem sameSealB_iff {a b : SealD} : sameSealB a b = true ↔ a = b := by
 obtain ⟨s, p, h⟩ := a
 obtain ⟨t, q, g⟩ := b
 simp [sameSealB, sameRangeB_iff, HeadD.eqb_iff, and_assoc]
theorem nodeT_size {w : Int} {t : ByteArray} (hw : inR w 1 32 = true) (ht : t.size ≤ 4000) : (nodeT w t).size = w.toNat := by
 unfold nodeT
 exact digest_size (by rw [digestOk, hw]; simp [inR]; omega)
theorem treeR_size {w : Int} (hw : inR w 1 32 = true) : ∀ (n : Nat) (l : List ByteArray), l.length ≤ n → (∀ s ∈ l, s.size = w.toNat) → (treeR w l).size = w.toNat := by
 have hw2 := inR_true hw
 intro n
 induction n with
 | zero =>
   intro l hl _
   obtain rfl : l = [] := List.eq_nil_of_length_eq_zero (by omega)
   exact digest_size (by rw [emptyOk]; exact hw)
 | succ n ih =>
   intro l hl h
   match l, hl, h with
   | [], _, _ => exact digest_size (by rw [emptyOk]; exact hw)
   | [x], _, h => exact h x (by simp)
   | x :: y :: r, hl, h =>
     have l1 := half_lt (n := (x :: y :: r).length) (by simp)
     have l2 := half_pos (x :: y :: r).length
     have a := ih ((x :: y :: r).take (half (x :: y :: r).length)) (by rw [List.length_take]; omega) (fun s hs => h s (List.mem_of_mem_take hs))
     have b := ih ((x :: y :: r).drop (half (x :: y :: r).length)) (by rw [List.length_drop]; omega) (fun s hs => h s (List.mem_of_mem_drop hs))
     unfold treeR at a b ⊢
     rw [mroot_more _ _ (by simp)]
     refine nodeT_size hw ?_
     rw [ByteArray.size_append, a, b]; omega
theorem leafH_size {w : Int} {e : EntryD} (hw : inR w 1 32 = true) (he : entryOk e = true) : (leafH w e).size = w.toNat := by
 rw [(leafH_yes he).1]
 have := leafText_size e
 exact digest_size (by rw [digestOk, hw]; simp [inR]; omega)
theorem recH_size {w : Int} {e : ReceiptD} (hw : inR w 1 32 = true) (he : receiptOk e = true) : (recH w e).size = w.toNat := by
 rw [(recH_yes he).1]
 have := receiptText_size e
 exact digest_size (by rw [digestOk, hw]; simp [inR]; omega)
theorem logOk_all {l : List EntryD} (h : logOk l = true) : l.length ≤ 512 ∧ ∀ e ∈ l, entryOk e = true := by
 simp only [logOk, Bool.and_eq_true, decide_eq_true_eq, allTo_iff] at h
 refine ⟨h.1, fun e he => ?_⟩
 obtain ⟨i, hi⟩ := List.getElem?_of_mem he
 have := h.2 i (List.getElem?_eq_some_iff.1 hi).1
 rw [logAt, hi, Bool.and_eq_true] at this
 exact this.1
theorem recsOk_all {l : List ReceiptD} (h : recsOk l = true) : l.length ≤ 512 ∧ ∀ e ∈ l, receiptOk e = true := by
 simp only [recsOk, Bool.and_eq_true, decide_eq_true_eq, allTo_iff] at h
 refine ⟨h.1, fun e he => ?_⟩
 obtain ⟨i, hi⟩ := List.getElem?_of_mem he
 have := h.2 i (List.getElem?_eq_some_iff.1 hi).1
 rw [recAt, hi, Bool.and_eq_true] at this
 exact this.1
theorem leavesH_size {w : Int} {l : List EntryD} (hw : inR w 1 32 = true) (h : logOk l = true) : ∀ s ∈ leavesH w l, s.size = w.toNat := by
 intro s hs
 obtain ⟨e, he, rfl⟩ := List.mem_map.1 hs
 exact leafH_size hw ((logOk_all h).2 e he)
theorem takenH_size {w : Int} {l : List ReceiptD} (hw : inR w 1 32 = true) (h : recsOk l = true) : ∀ s ∈ takenH w l, s.size = w.toNat := by
 intro s hs
 obtain ⟨e, he, rfl⟩ := List.mem_map.1 hs
 exact recH_size hw ((recsOk_all h).2 e he)
end Go.Proofs.YthnpdoadmglipaaGreat
