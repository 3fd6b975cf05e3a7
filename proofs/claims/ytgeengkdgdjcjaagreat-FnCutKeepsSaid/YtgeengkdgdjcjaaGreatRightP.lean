/-
  RightP: No condition.
-/
import Derived.Test.YtgeengkdgdjcjaaGreatSealP
namespace Go.Proofs.YtgeengkdgdjcjaaGreat
set_option linter.unusedSimpArgs false
open Go.RowKit
set_option linter.unusedVariables false
theorem broker_iff (b : BrokerD) : brokerB b = true ↔ inR b.width 1 32 = true ∧ logOk b.log.entries = true ∧ recsOk b.receipts = true ∧ 0 < b.heads.length ∧ headsOk b.width b.heads = true ∧ (b.heads.headD hz).eqb (newH true b.width) = true ∧
 (∀ k, k < b.heads.length → sealAt b.width (leavesH b.width b.log.entries) (takenH b.width b.receipts) b.heads k = true) ∧ (∀ k, k < b.receipts.length → readAt b k = true) ∧ sealOfH b.width (leavesH b.width b.log.entries) (takenH b.width b.receipts) (lastH b.heads) = b.sealed := by
 rw [brokerB, Bool.and_eq_true, sameSealB_iff]
 simp only [brkParts, Bool.and_eq_true, decide_eq_true_eq, allTo_iff]
 constructor
 · rintro ⟨⟨⟨⟨⟨⟨⟨⟨h1, h2⟩, h3⟩, h4⟩, h5⟩, h6⟩, h7⟩, h8⟩, h9⟩
   exact ⟨h1, h2, h3, h4, h5, h6, h7, h8, h9⟩
 · rintro ⟨h1, h2, h3, h4, h5, h6, h7, h8, h9⟩
   exact ⟨⟨⟨⟨⟨⟨⟨⟨h1, h2⟩, h3⟩, h4⟩, h5⟩, h6⟩, h7⟩, h8⟩, h9⟩
theorem logOk_snoc {l : List EntryD} {x : EntryD} (h : logOk l = true) (hl : l.length < 512) (hx : entryOk x = true) (hi : (cntT l x.topic : Int) = x.index) : logOk (l ++ [x]) = true := by
 simp only [logOk, Bool.and_eq_true, decide_eq_true_eq, allTo_iff] at h ⊢
 refine ⟨by simp; omega, fun k hk => ?_⟩
 by_cases e : k = l.length
 · subst e
   have e1 : (l ++ [x])[l.length]? = some x := by simp
   have e2 : (l ++ [x]).take l.length = l := by simp
   rw [logAt, e1, e2]
   simp [hx, hi]
 · have hk2 : k < l.length := by simp at hk; omega
   have := h.2 k hk2
   have e1 : (l ++ [x])[k]? = l[k]? := List.getElem?_append_left hk2
   have e2 : (l ++ [x]).take k = l.take k := List.take_append_of_le_length (by omega)
   rw [logAt] at this ⊢
   rw [e1, e2]; exact this
theorem idxB_app {α : Type} {p : α → Bool} {l m : List α} {k : Nat} (h : idxB p l = (k : Int)) : idxB p (l ++ m) = (k : Int) := by
 obtain ⟨x, h1, h2, h3⟩ := idxB_spec h
 have hk := (List.getElem?_eq_some_iff.1 h1).1
 exact idxB_at (by rw [List.getElem?_append_left hk]; exact h1) h2 (fun y hy => h3 y (by rw [List.take_append_of_le_length (by omega)] at hy; exact hy))
theorem recsOk_snoc {l : List ReceiptD} {x : ReceiptD} (h : recsOk l = true) (hl : l.length < 512) (hx : receiptOk x = true) (hi : ¬ 0 ≤ idxB (fun y => y.eqb x) l) : recsOk (l ++ [x]) = true := by
 simp only [recsOk, Bool.and_eq_true, decide_eq_true_eq, allTo_iff] at h ⊢
 refine ⟨by simp; omega, fun k hk => ?_⟩
 by_cases e : k = l.length
 · subst e
   have e1 : (l ++ [x])[l.length]? = some x := by simp
   have e3 := idxB_at (p := fun y : ReceiptD => y.eqb x) e1 (by simp [ReceiptD.eqb_iff]) (fun y hy => idxB_neg (Int.not_le.1 hi) y (by simpa using hy))
   rw [recAt, e1]
   simp only [hx, Bool.true_and, beq_iff_eq]
   exact e3
 · have hk2 : k < l.length := by simp at hk; omega
   have := h.2 k hk2
   have e1 : (l ++ [x])[k]? = l[k]? := List.getElem?_append_left hk2
   rw [recAt] at this ⊢
   rw [e1]
   cases hr : l[k]? with
   | none => rw [hr] at this; exact absurd this (by simp)
   | some r =>
     rw [hr] at this
     simp only [Bool.and_eq_true, beq_iff_eq] at this ⊢
     exact ⟨this.1, idxB_app this.2⟩
theorem sealAt_app {w : Int} {L T L' T' : List ByteArray} {hs : List HeadD} {k : Nat} (h : sealAt w L T hs k = true) : sealAt w (L ++ L') (T ++ T') hs k = true := by
 rw [sealAt] at h ⊢
 cases hk : hs[k]? with
 | none => rw [hk] at h; exact absurd h (by simp)
 | some x =>
   rw [hk] at h
   simp only [Bool.and_eq_true, decide_eq_true_eq] at h ⊢
   have e1 : (L ++ L').take x.size.toNat = L.take x.size.toNat := List.take_append_of_le_length (by omega)
   have e2 : (T ++ T').take x.taken.toNat = T.take x.taken.toNat := List.take_append_of_le_length (by omega)
   rw [e1, e2]
   refine ⟨⟨⟨?_, ?_⟩, h.1.2⟩, h.2⟩
   · rw [List.length_append]; omega
   · rw [List.length_append]; omega
theorem sealOfH_app {w : Int} {L T L' T' : List ByteArray} {h : HeadD} (h1 : h.size.toNat ≤ L.length) (h2 : h.taken.toNat ≤ T.length) : sealOfH w (L ++ L') (T ++ T') h = sealOfH w L T h := by
 unfold sealOfH
 rw [List.take_append_of_le_length h1, List.take_append_of_le_length h2]
theorem leavesH_app (w : Int) (l m : List EntryD) : leavesH w (l ++ m) = leavesH w l ++ leavesH w m := by simp [leavesH]
theorem takenH_app (w : Int) (l m : List ReceiptD) : takenH w (l ++ m) = takenH w l ++ takenH w m := by simp [takenH]
theorem right_pub {b : BrokerD} {e : EntryD} (hB : brokerB b = true) (h : adCode b.log.entries e = 0) : brokerB (pbB0 b e) = true := by
 obtain ⟨n1, n2, sf⟩ := sl_facts hB
 obtain ⟨h1, h2, h3, h4, h5, h6, h7, h8, h9⟩ := (broker_iff b).1 hB
 obtain ⟨g1, g2, g3⟩ := ad_good h
 have hc := cntT_le b.log.entries e.topic
 rw [broker_iff]
 refine ⟨h1, logOk_snoc h2 g3 ?_ rfl, h3, h4, h5, h6, ?_, ?_, ?_⟩
 · simp only [entryOk, pbNew, addNew, Bool.and_eq_true]
   exact ⟨⟨g1, by simp [inR]; omega⟩, g2⟩
 · intro k hk
   have := h7 k hk
   show sealAt b.width (leavesH b.width (b.log.entries ++ [pbNew b e])) (takenH b.width b.receipts) b.heads k = true
   rw [leavesH_app, ← List.append_nil (takenH b.width b.receipts)]
   exact sealAt_app this
 · intro k hk
   have := h8 k hk
   rw [readAt] at this ⊢
   show (match b.receipts[k]? with
    | some r => decide (0 ≤ idxB (ofTI r.topic r.index) ((b.log.entries ++ [pbNew b e]).take (lastH b.heads).size.toNat))
    | none => false) = true
   rw [List.take_append_of_le_length (by rw [sf.s]; exact sf.e)]
   exact this
 · show sealOfH b.width (leavesH b.width (b.log.entries ++ [pbNew b e])) (takenH b.width b.receipts) (lastH b.heads) = b.sealed
   rw [leavesH_app, ← List.append_nil (takenH b.width b.receipts), sealOfH_app, h9]
   · rw [sf.s, leavesH, List.length_map]; exact sf.e
   · rw [sf.t, takenH, List.length_map]; exact sf.r
theorem right_take {b : BrokerD} {r : ReceiptD} (hB : brokerB b = true) (h : tkCode b r = 0) : brokerB (tkB b r) = true := by
 obtain ⟨n1, n2, sf⟩ := sl_facts hB
 obtain ⟨h1, h2, h3, h4, h5, h6, h7, h8, h9⟩ := (broker_iff b).1 hB
 have g : receiptOk r = true ∧ inR (idxB (ofTI r.topic r.index) b.log.entries) 0 ((lastH b.heads).size - 1) = true ∧ ¬ 0 ≤ idxB (fun x => x.eqb r) b.receipts ∧ b.receipts.length < 512 := by
  unfold tkCode at h
  cases c1 : receiptOk r
  · rw [c1] at h; simp at h
  · cases c2 : inR (idxB (ofTI r.topic r.index) b.log.entries) 0 ((lastH b.heads).size - 1)
    · rw [c1, c2] at h; simp at h
    · rw [c1, c2, if_pos rfl, if_pos rfl] at h
      refine ⟨rfl, rfl, ?_⟩
      split at h
      · omega
      · rename_i h0
        split at h
        · omega
        · exact ⟨h0, by omega⟩
 obtain ⟨g1, g2, g3, g4⟩ := g
 rw [broker_iff]
 refine ⟨h1, h2, recsOk_snoc h3 g4 g1 g3, h4, h5, h6, ?_, ?_, ?_⟩
 · intro k hk
   have := h7 k hk
   show sealAt b.width (leavesH b.width b.log.entries) (takenH b.width (b.receipts ++ [r])) b.heads k = true
   rw [takenH_app, ← List.append_nil (leavesH b.width b.log.entries)]
   exact sealAt_app this
 · intro k hk
   rw [readAt]
   show (match (b.receipts ++ [r])[k]? with
    | some r => decide (0 ≤ idxB (ofTI r.topic r.index) (b.log.entries.take (lastH b.heads).size.toNat))
    | none => false) = true
   by_cases e : k = b.receipts.length
   · subst e
     have e1 : (b.receipts ++ [r])[b.receipts.length]? = some r := by simp
     rw [e1]
     have g5 := inR_true g2
     have := idxB_take (p := ofTI r.topic r.index) b.log.entries (lastH b.heads).size.toNat
     simp only [this, Bool.and_eq_true, decide_eq_true_eq]
     have q := sf.s
     omega
   · have hk2 : k < b.receipts.length := by
      have : k < (b.receipts ++ [r]).length := hk
      simp at this; omega
     have := h8 k hk2
     rw [List.getElem?_append_left hk2]
     rw [readAt] at this
     exact this
 · show sealOfH b.width (leavesH b.width b.log.entries) (takenH b.width (b.receipts ++ [r])) (lastH b.heads) = b.sealed
   rw [takenH_app, ← List.append_nil (leavesH b.width b.log.entries), sealOfH_app, h9]
   · rw [sf.s, leavesH, List.length_map]; exact sf.e
   · rw [sf.t, takenH, List.length_map]; exact sf.r
theorem headsOk_snoc {n : Int} {l : List HeadD} {g h : HeadD} (hl : headsOk n l = true) (h4 : l.length < 400) (hg : l[l.length - 1]? = some g) (h0 : 0 < l.length) (hf : followsB n g h = true) (hn : h.number = (l.length : Int)) : headsOk n (l ++ [h]) = true := by
 obtain ⟨a, b, c⟩ := headsOk_all hl
 simp only [headsOk, Bool.and_eq_true, decide_eq_true_eq, allTo_iff]
 refine ⟨⟨a, by simp; omega⟩, fun k hk => ?_⟩
 by_cases e : k = l.length
 · obtain ⟨j, hj⟩ : ∃ j, l.length = j + 1 := ⟨l.length - 1, by omega⟩
   have e1 : (l ++ [h])[k]? = some h := by rw [e]; simp
   have e2 : (l ++ [h])[j]? = some g := by rw [List.getElem?_append_left (by omega), ← hg, hj]; rfl
   have hok : headOk n h = true := by
    simp only [followsB, Bool.and_eq_true] at hf
    exact hf.1.1.1.1.2
   rw [hj] at e
   subst e
   rw [headAt, e1]
   simp only [e2, hf, hok, hn, hj, Bool.and_true, Bool.true_and, beq_iff_eq]
 · have hk2 : k < l.length := by simp at hk; omega
   have := c k hk2
   have e1 : (l ++ [h])[k]? = l[k]? := List.getElem?_append_left hk2
   rw [headAt] at this ⊢
   rw [e1]
   cases k with
   | zero => exact this
   | succ j =>
     have e2 : (l ++ [h])[j]? = l[j]? := List.getElem?_append_left (by omega)
     simp only [e2]
     exact this
theorem right_seal {b : BrokerD} (hB : brokerB b = true) (h : slCode b = 0) : brokerB (slB b) = true := by
 obtain ⟨n1, n2, sf⟩ := sl_facts hB
 obtain ⟨h1, h2, h3, h4, h5, h6, h7, h8, h9⟩ := (broker_iff b).1 hB
 have hl : b.heads.length < 400 := by
  unfold slCode at h
  split at h
  · omega
  · split at h
    · omega
    · omega
 have hw2 := inR_true h1
 have hlast := last_at h4
 have hlok := (last_ok hB).1
 have e1 : (slL b).length = b.log.entries.length := by rw [slL, leavesH, List.length_map]
 have e2 : (slT b).length = b.receipts.length := by rw [slT, takenH, List.length_map]
 have t1 := treeR_size h1 _ (slL b) (Nat.le_refl _) sf.l
 have t2 := treeR_size h1 _ (slT b) (Nat.le_refl _) sf.m
 have q1 := sf.e; have q2 := sf.r; have q3 := sf.le; have q4 := sf.lr; have q5 := sf.n; have q6 := sf.s; have q7 := sf.t
 have hsl := h7 (b.heads.length - 1) (by omega)
 rw [sealAt, hlast] at hsl
 simp only [Bool.and_eq_true, decide_eq_true_eq, beq_iff_eq] at hsl
 have rt : ∀ (L : List ByteArray), L.length ≤ 512 → (treeR b.width L).size = b.width.toNat → rootB b.width ((L.length : Nat) : Int) (treeR b.width L) = true := by
  intro L hL hs
  simp only [rootB, Bool.and_eq_true, Bool.or_eq_true, decide_eq_true_eq, beq_iff_eq]
  refine ⟨⟨by simp [inR]; omega, by omega⟩, ?_⟩
  rcases Nat.eq_zero_or_pos L.length with h0 | h0
  · right; rw [List.eq_nil_of_length_eq_zero h0]; rfl
  · left; omega
 have hok : headOk b.width (slHead b) = true := by
  have i1 : inR (slHead b).number 0 399 = true := by
   show inR ((lastH b.heads).number + 1) 0 399 = true
   simp [inR]; omega
  have i2 : rootB b.width (slHead b).size (slHead b).root = true := rt _ (by omega) t1
  have i3 : rootB b.width (slHead b).taken (slHead b).takenRoot = true := rt _ (by omega) t2
  rw [headOk, h1, i1, i2, i3]; rfl
 have hpart : parted (lastH b.heads) (slHead b) = false := by
  simp only [parted, slHead, Bool.or_eq_false_iff, Bool.and_eq_false_iff]
  constructor
  · by_cases c : (lastH b.heads).size = ((slL b).length : Int)
    · right
      rw [Bool.not_eq_false', beq_iff_eq, hsl.1.2]
      have : (leavesH b.width b.log.entries).take (lastH b.heads).size.toNat = slL b := by rw [c]; show (slL b).take _ = _; exact List.take_of_length_le (by omega)
      rw [this]
    · left; exact beq_false_of_ne c
  · by_cases c : (lastH b.heads).taken = ((slT b).length : Int)
    · right
      rw [Bool.not_eq_false', beq_iff_eq, hsl.2]
      have : (takenH b.width b.receipts).take (lastH b.heads).taken.toNat = slT b := by rw [c]; show (slT b).take _ = _; exact List.take_of_length_le (by omega)
      rw [this]
    · left; exact beq_false_of_ne c
 have hfol : followsB b.width (lastH b.heads) (slHead b) = true := by
  simp only [followsB, hlok, hok, hpart, Bool.and_eq_true, decide_eq_true_eq, Bool.not_false]
  refine ⟨⟨⟨⟨⟨trivial, trivial⟩, ?_⟩, ?_⟩, ?_⟩, trivial⟩
  · show (lastH b.heads).number < (lastH b.heads).number + 1; omega
  · show (lastH b.heads).size ≤ ((slL b).length : Int); omega
  · show (lastH b.heads).taken ≤ ((slT b).length : Int); omega
 have hla : lastH (b.heads ++ [slHead b]) = slHead b := by simp [lastH]
 have hL : (slL b).take ((slHead b).size.toNat) = slL b := List.take_of_length_le (by show (slL b).length ≤ (((slL b).length : Nat) : Int).toNat; omega)
 have hT : (slT b).take ((slHead b).taken.toNat) = slT b := List.take_of_length_le (by show (slT b).length ≤ (((slT b).length : Nat) : Int).toNat; omega)
 rw [broker_iff]
 refine ⟨h1, h2, h3, ?_, headsOk_snoc h5 hl hlast h4 hfol ?_, ?_, ?_, ?_, ?_⟩
 · show 0 < (b.heads ++ [slHead b]).length
   simp
 · show (lastH b.heads).number + 1 = (b.heads.length : Int); omega
 · show ((b.heads ++ [slHead b]).headD hz).eqb (newH true b.width) = true
   cases hh : b.heads with
   | nil => rw [hh] at h4; simp at h4
   | cons x r => rw [hh] at h6; exact h6
 · intro k hk
   show sealAt b.width (slL b) (slT b) (b.heads ++ [slHead b]) k = true
   by_cases e : k = b.heads.length
   · subst e
     have e1 : (b.heads ++ [slHead b])[b.heads.length]? = some (slHead b) := by simp
     rw [sealAt, e1]
     simp only [hL, hT]
     simp [slHead]
   · have hk2 : k < b.heads.length := by
      have : k < (b.heads ++ [slHead b]).length := hk
      simp at this; omega
     have := h7 k hk2
     rw [sealAt] at this ⊢
     rw [List.getElem?_append_left hk2]
     exact this
 · intro k hk
   have := h8 k hk
   rw [readAt] at this ⊢
   show (match b.receipts[k]? with
    | some r => decide (0 ≤ idxB (ofTI r.topic r.index) (b.log.entries.take (lastH (b.heads ++ [slHead b])).size.toNat))
    | none => false) = true
   rw [hla]
   cases hr : b.receipts[k]? with
   | none => rw [hr] at this; exact absurd this (by simp)
   | some r =>
     rw [hr] at this
     simp only [decide_eq_true_eq] at this ⊢
     have i1 := idxB_take (p := ofTI r.topic r.index) b.log.entries (lastH b.heads).size.toNat
     have i2 := idxB_take (p := ofTI r.topic r.index) b.log.entries (slHead b).size.toNat
     rw [decide_eq_true this] at i1
     have i3 : 0 ≤ idxB (ofTI r.topic r.index) b.log.entries ∧ idxB (ofTI r.topic r.index) b.log.entries ≤ ((lastH b.heads).size.toNat : Int) - 1 := by
      have := i1.symm
      simpa only [Bool.and_eq_true, decide_eq_true_eq] using this
     have i4 : (slHead b).size.toNat = b.log.entries.length := by show (((slL b).length : Nat) : Int).toNat = _; omega
     have i5 : decide (0 ≤ idxB (ofTI r.topic r.index) b.log.entries) = true := decide_eq_true i3.1
     have i6 : decide (idxB (ofTI r.topic r.index) b.log.entries ≤ ((slHead b).size.toNat : Int) - 1) = true := decide_eq_true (by rw [i4]; omega)
     rw [i5, i6] at i2
     simpa using i2
 · show sealOfH b.width (slL b) (slT b) (lastH (b.heads ++ [slHead b])) = slSeal b
   rw [hla, sealOfH, hL, hT]
   rfl
def newBr (n : Int) : BrokerD := ⟨n, ⟨[]⟩, [], [newH true n], ⟨⟨0, []⟩, ⟨0, []⟩, newH true n⟩⟩
theorem right_new {n : Int} (hn : inR n 1 32 = true) : brokerB (newBr n) = true := by
 have hw2 := inR_true hn
 have t0 : (emptyR n).size = n.toNat := digest_size (by rw [emptyOk]; exact hn)
 have r0 : rootB n 0 (emptyR n) = true := by
  simp only [rootB, Bool.and_eq_true, Bool.or_eq_true, decide_eq_true_eq, beq_iff_eq]
  exact ⟨⟨rfl, by omega⟩, .inr trivial⟩
 have hok : headOk n (newH true n) = true := by
  rw [headOk, hn]
  show (true && inR 0 0 399 && rootB n 0 (emptyR n) && rootB n 0 (emptyR n)) = true
  rw [r0]; rfl
 rw [broker_iff]
 refine ⟨hn, rfl, rfl, Nat.one_pos, ?_, HeadD.eqb_self _, ?_, ?_, ?_⟩
 · have e1 : headAt n [newH true n] 0 = true := by
    show (headOk n (newH true n) && ((newH true n).number == ((0 : Nat) : Int)) && true) = true
    rw [hok]; rfl
   show (inR n 1 32 && decide ((1 : Nat) ≤ 400) && (true && headAt n [newH true n] 0)) = true
   rw [hn, e1]; rfl
 · intro k hk
   obtain rfl : k = 0 := by have : k < 1 := hk; omega
   have e : treeR n [] = emptyR n := rfl
   show (match ([newH true n] : List HeadD)[0]? with
    | some h => decide (h.size ≤ (0 : Nat)) && decide (h.taken ≤ (0 : Nat)) && (h.root.toList == (treeR n (([] : List ByteArray).take h.size.toNat)).toList) && (h.takenRoot.toList == (treeR n (([] : List ByteArray).take h.taken.toNat)).toList)
    | none => false) = true
   simp [newH, e]
 · intro k hk; exact absurd hk (by show ¬ k < 0; omega)
 · rfl
end Go.Proofs.YtgeengkdgdjcjaaGreat
