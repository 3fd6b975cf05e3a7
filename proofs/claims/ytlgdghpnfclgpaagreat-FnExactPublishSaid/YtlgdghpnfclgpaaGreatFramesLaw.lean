/-
  Broker1; Reread; Frames; Unfr; UnfrLaw; ReadRec; ReadLf; LeafBk; FramesLaw: No condition.
-/
import Derived.Test.YtlgdghpnfclgpaaGreatBroker0
import Derived.Test.YtlgdghpnfclgpaaGreatHash
import Derived.Test.YtlgdghpnfclgpaaGreatHeadOps
import Derived.Test.YtlgdghpnfclgpaaGreatHashTop
import Derived.Test.YtlgdghpnfclgpaaGreatMixIn
import Derived.Test.YtlgdghpnfclgpaaGreatLeaf
import Derived.Test.YtlgdghpnfclgpaaGreatConvHead
import Derived.Test.YtlgdghpnfclgpaaGreatConvEntry
namespace Go.Proofs.YtlgdghpnfclgpaaGreat
set_option linter.unusedSimpArgs false
open Go.RowKit
set_option linter.unusedVariables false
section
variable {α : Type} {nd : α → α → α} {e : α} {P : α → Prop}
theorem carryN_nil (n : Nat) (v : α) : carryN nd n [] v = [v] := by
 unfold carryN
 cases n <;> rfl
theorem carry_all (hnd : ∀ a b, P a → P b → P (nd a b)) : ∀ (n : Nat) (s : List α) (v : α), (∀ x ∈ s, P x) → P v → ∀ x ∈ carryN nd n s v, P x := by
 intro n
 induction n using Nat.strongRecOn with
 | _ n ih =>
   intro s v hs hv
   rcases Nat.mod_two_eq_zero_or_one n with h | h
   · rw [carryN_even nd h]
     intro x hx
     rcases List.mem_cons.1 hx with rfl | hx
     · exact hv
     · exact hs x hx
   · match s, hs with
     | [], _ =>
       rw [carryN_nil]
       intro x hx
       obtain rfl := List.mem_singleton.1 hx
       exact hv
     | p :: r, hs =>
       rw [carryN_odd nd h]
       exact ih (n / 2) (by omega) r _ (fun x hx => hs x (by simp [hx])) (hnd _ _ (hs p (by simp)) hv)
theorem growL_all (hnd : ∀ a b, P a → P b → P (nd a b)) : ∀ (r : List α) (n : Nat) (s : List α), (∀ x ∈ s, P x) → (∀ x ∈ r, P x) → ∀ x ∈ growL nd n s r, P x
 | [], n, s, hs, _ => hs
 | y :: r, n, s, hs, hr => by
   rw [growL_cons]
   exact growL_all hnd r _ _ (carry_all hnd n s y hs (hr y (by simp))) (fun x hx => hr x (by simp [hx]))
theorem peaks_all (hnd : ∀ a b, P a → P b → P (nd a b)) (l : List α) (h : ∀ x ∈ l, P x) : ∀ x ∈ peaksOf nd l, P x := growL_all hnd l 0 [] (by simp) h
theorem peaks_take (L : List α) {a b : Nat} (hab : a ≤ b) (hb : b ≤ L.length) : growL nd a (peaksOf nd (L.take a)) ((L.drop a).take (b - a)) = peaksOf nd (L.take b) := by
 have e1 : L.take b = L.take a ++ (L.drop a).take (b - a) := by
  rw [show b = a + (b - a) by omega, List.take_add, show a + (b - a) - a = b - a by omega]
 rw [e1, peaks_append, List.length_take, Nat.min_eq_left (by omega)]
end
theorem pc_pos : ∀ {n : Nat}, 0 < n → 0 < pc n := by
 intro n
 induction n using Nat.strongRecOn with
 | _ n ih =>
   intro h
   rw [pc_step]
   rcases Nat.mod_two_eq_zero_or_one n with h1 | h1
   · have := ih (n / 2) (by omega) (by omega); omega
   · omega
theorem pc_more {m : Nat} : pc m + 1 > pc (m + 1) ↔ m % 2 = 1 := by
 rcases Nat.mod_two_eq_zero_or_one m with h | h
 · rw [pc_even h]; omega
 · obtain ⟨h1, h2⟩ := pc_odd h
   have := pc_next (m / 2)
   rw [h1, h2]; omega
def WdT (w : Int) (s : ByteArray) : Prop := s.size = w.toNat
theorem ndB_wd {w : Int} (hw : inR w 1 32 = true) : ∀ a b, WdT w a → WdT w b → WdT w (ndB w a b) := by
 intro a b ha hb
 unfold WdT at *
 have hw2 := inR_true hw
 refine nodeT_size hw ?_
 rw [ByteArray.size_append, ha, hb]; omega
theorem peaks_wd {w : Int} (hw : inR w 1 32 = true) {l : List ByteArray} (h : ∀ x ∈ l, WdT w x) : ∀ x ∈ peaksOf (ndB w) l, WdT w x := peaks_all (ndB_wd hw) l h
def rootR (w : Int) (r : RangeD) : ByteArray := rootS (ndB w) (emptyR w) r.peaks.reverse
def rangeOkB (w : Int) (r : RangeD) : Bool := inR r.size 0 512 && decide (r.peaks.length = pc r.size.toNat) && (hashes w r.peaks && inR w 1 32)
def sealOkB (w : Int) (s : SealD) : Bool := rangeOkB w s.leaves && rangeOkB w s.taken && headOk w s.head && (s.head.size == s.leaves.size) && (s.head.root.toList == (rootR w s.leaves).toList) && (s.head.taken == s.taken.size) && (s.head.takenRoot.toList == (rootR w s.taken).toList)
theorem rangeOf_ok {w : Int} (hw : inR w 1 32 = true) {l : List ByteArray} (hl : l.length ≤ 512) (h : ∀ x ∈ l, WdT w x) : rangeOkB w (rangeOf w l) = true := by
 have hw2 := inR_true hw
 have h1 := peaks_wd hw h
 simp only [rangeOkB, rangeOf, hw, Bool.and_true, Bool.and_eq_true, decide_eq_true_eq, hashes, List.all_eq_true, List.mem_reverse, beq_iff_eq, List.length_reverse, peaks_len, Int.toNat_natCast]
 refine ⟨⟨by simp [inR]; omega, trivial⟩, fun x hx => ?_⟩
 have := h1 x hx
 unfold WdT at this
 omega
theorem rangeOf_root {w : Int} (l : List ByteArray) : rootR w (rangeOf w l) = treeR w l := by
 unfold rootR rangeOf treeR
 rw [List.reverse_reverse]
 exact peaks_root _ _ l
theorem seal_of {w : Int} {L T : List ByteArray} {h : HeadD} (hw : inR w 1 32 = true) (hL : ∀ x ∈ L, WdT w x) (hT : ∀ x ∈ T, WdT w x) (hok : headOk w h = true) (h1 : h.size ≤ L.length) (h2 : h.taken ≤ T.length) (h3 : h.root = treeR w (L.take h.size.toNat)) (h4 : h.takenRoot = treeR w (T.take h.taken.toNat)) : sealOkB w (sealOfH w L T h) = true := by
 have hk := hok
 simp only [headOk, rootB, Bool.and_eq_true] at hk
 have r1 := inR_true hk.1.2.1.1
 have r2 := inR_true hk.2.1.1
 have t1 : (L.take h.size.toNat).length = h.size.toNat := by rw [List.length_take]; omega
 have t2 : (T.take h.taken.toNat).length = h.taken.toNat := by rw [List.length_take]; omega
 simp only [sealOkB, sealOfH, Bool.and_eq_true, beq_iff_eq]
 refine ⟨⟨⟨⟨⟨⟨rangeOf_ok hw (by omega) (fun x hx => hL x (List.mem_of_mem_take hx)), rangeOf_ok hw (by omega) (fun x hx => hT x (List.mem_of_mem_take hx))⟩, hok⟩, ?_⟩, ?_⟩, ?_⟩, ?_⟩
 · simp only [rangeOf, t1]; omega
 · rw [rangeOf_root, ← h3]
 · simp only [rangeOf, t2]; omega
 · rw [rangeOf_root, ← h4]
theorem headAt_ok {n : Int} {l : List HeadD} {k : Nat} {h : HeadD} (hd : l[k]? = some h) (ha : headAt n l k = true) : headOk n h = true ∧ h.number = (k : Int) := by
 rw [headAt, hd] at ha
 simp only [Bool.and_eq_true, beq_iff_eq] at ha
 exact ha.1
theorem headAt_up {n : Int} {l : List HeadD} {j : Nat} {g h : HeadD} (hg : l[j]? = some g) (hd : l[j + 1]? = some h) (ha : headAt n l (j + 1) = true) : g.size ≤ h.size ∧ g.taken ≤ h.taken := by
 rw [headAt, hd] at ha
 simp only [hg, Bool.and_eq_true, followsB, decide_eq_true_eq] at ha
 exact ⟨ha.2.1.1.2, ha.2.1.2⟩
theorem headsOk_all {n : Int} {l : List HeadD} (h : headsOk n l = true) : inR n 1 32 = true ∧ l.length ≤ 400 ∧ ∀ k, k < l.length → headAt n l k = true := by
 simp only [headsOk, Bool.and_eq_true, decide_eq_true_eq] at h
 exact ⟨h.1.1, h.1.2, allTo_iff.1 h.2⟩
theorem headOk_in {n : Int} {h : HeadD} (hok : headOk n h = true) : 0 ≤ h.size ∧ h.size ≤ 512 ∧ 0 ≤ h.taken ∧ h.taken ≤ 512 ∧ h.root.size = n.toNat ∧ h.takenRoot.size = n.toNat := by
 simp only [headOk, rootB, Bool.and_eq_true, beq_iff_eq] at hok
 have r0 := inR_true hok.1.1.1
 have r1 := inR_true hok.1.2.1.1
 have r2 := inR_true hok.2.1.1
 have r3 := hok.1.2.1.2
 have r4 := hok.2.1.2
 omega
theorem last_at {hs : List HeadD} (h0 : 0 < hs.length) : hs[hs.length - 1]? = some (lastH hs) := by
 unfold lastH
 rw [List.getLastD_eq_getLast?, List.getLast?_eq_getElem?]
 rw [List.getElem?_eq_getElem (by omega)]; rfl
theorem broker_spec (b : BrokerD) (h : brkParts b = true) :
 (sealOkB b.width b.sealed && b.sealed.head.eqb (lastH b.heads) && sameRangeB b.sealed.leaves (rangeOf b.width ((leavesH b.width b.log.entries).take (lastH b.heads).size.toNat)) && sameRangeB b.sealed.taken (rangeOf b.width ((takenH b.width b.receipts).take (lastH b.heads).taken.toNat))) = brokerB b := by
 have hp := h
 simp only [brkParts, Bool.and_eq_true, decide_eq_true_eq] at h
 obtain ⟨⟨⟨⟨⟨⟨⟨hw, hlog⟩, hrec⟩, h0⟩, hh⟩, hz0⟩, hsl⟩, hrd⟩ := h
 obtain ⟨_, _, hall⟩ := headsOk_all hh
 have hl := last_at h0
 obtain ⟨ok, _⟩ := headAt_ok hl (hall _ (by omega))
 have sl := allTo_iff.1 hsl (b.heads.length - 1) (by omega)
 rw [sealAt, hl] at sl
 simp only [Bool.and_eq_true, decide_eq_true_eq, beq_iff_eq, bytes_toList] at sl
 obtain ⟨⟨⟨q1, q2⟩, q3⟩, q4⟩ := sl
 have so := seal_of hw (leavesH_size hw hlog) (takenH_size hw hrec) ok q1 q2 q3 q4
 rw [brokerB, hp, Bool.true_and, Bool.eq_iff_iff, sameSealB_iff]
 simp only [Bool.and_eq_true, sameRangeB_iff, HeadD.eqb_iff]
 refine ⟨fun ⟨⟨⟨k0, k1⟩, k2⟩, k3⟩ => ?_, fun k => ?_⟩
 · unfold sealOfH
   rw [← k1, k1, ← k2, ← k3, ← k1]
 · rw [← k]
   exact ⟨⟨⟨so, rfl⟩, rfl⟩, rfl⟩
def sealPrev (w : Int) (L T : List ByteArray) (hs : List HeadD) : Nat → SealD
 | 0 => ⟨⟨0, []⟩, ⟨0, []⟩, newH true w⟩
 | j + 1 => match hs[j]? with
   | some h => sealOfH w L T h
   | none => ⟨⟨0, []⟩, ⟨0, []⟩, newH true w⟩
theorem sealPrev_next {w : Int} {L T : List ByteArray} {hs : List HeadD} {j : Nat} {g : HeadD} (hg : hs[j]? = some g) : sealPrev w L T hs (j + 1) = sealOfH w L T g := by rw [sealPrev, hg]
def moreS (w : Int) (s : SealD) (a b : List ByteArray) : SealD :=
 let x : RangeD := ⟨s.leaves.size + a.length, (growL (ndB w) s.leaves.size.toNat s.leaves.peaks.reverse a).reverse⟩
 let y : RangeD := ⟨s.taken.size + b.length, (growL (ndB w) s.taken.size.toNat s.taken.peaks.reverse b).reverse⟩
 ⟨x, y, ⟨s.head.number + 1, x.size, rootR w x, y.size, rootR w y⟩⟩
theorem moreS_of {w : Int} {L T : List ByteArray} {g h : HeadD} (g1 : 0 ≤ g.size) (g2 : 0 ≤ g.taken) (h1 : g.size ≤ h.size) (h2 : g.taken ≤ h.taken) (h3 : h.size ≤ L.length) (h4 : h.taken ≤ T.length) (hn : h.number = g.number + 1) :
 moreS w (sealOfH w L T g) ((L.drop g.size.toNat).take (h.size.toNat - g.size.toNat)) ((T.drop g.taken.toNat).take (h.taken.toNat - g.taken.toNat)) =
 ⟨rangeOf w (L.take h.size.toNat), rangeOf w (T.take h.taken.toNat), ⟨h.number, h.size, treeR w (L.take h.size.toNat), h.taken, treeR w (T.take h.taken.toNat)⟩⟩ := by
 have t1 : (L.take g.size.toNat).length = g.size.toNat := by rw [List.length_take]; omega
 have t2 : (T.take g.taken.toNat).length = g.taken.toNat := by rw [List.length_take]; omega
 have e1 := peaks_take (nd := ndB w) L (a := g.size.toNat) (b := h.size.toNat) (by omega) (by omega)
 have e2 := peaks_take (nd := ndB w) T (a := g.taken.toNat) (b := h.taken.toNat) (by omega) (by omega)
 have u1 : (L.take h.size.toNat).length = h.size.toNat := by rw [List.length_take]; omega
 have u2 : (T.take h.taken.toNat).length = h.taken.toNat := by rw [List.length_take]; omega
 have v1 : (((L.drop g.size.toNat).take (h.size.toNat - g.size.toNat)).length : Int) = h.size - g.size := by rw [List.length_take, List.length_drop]; omega
 have v2 : (((T.drop g.taken.toNat).take (h.taken.toNat - g.taken.toNat)).length : Int) = h.taken - g.taken := by rw [List.length_take, List.length_drop]; omega
 have x1 : (⟨(rangeOf w (L.take g.size.toNat)).size + ((L.drop g.size.toNat).take (h.size.toNat - g.size.toNat)).length, (growL (ndB w) (rangeOf w (L.take g.size.toNat)).size.toNat (rangeOf w (L.take g.size.toNat)).peaks.reverse ((L.drop g.size.toNat).take (h.size.toNat - g.size.toNat))).reverse⟩ : RangeD) = rangeOf w (L.take h.size.toNat) := by
  simp only [rangeOf, t1, u1, v1, List.reverse_reverse, Int.toNat_natCast, e1, RangeD.mk.injEq, and_true]
  omega
 have x2 : (⟨(rangeOf w (T.take g.taken.toNat)).size + ((T.drop g.taken.toNat).take (h.taken.toNat - g.taken.toNat)).length, (growL (ndB w) (rangeOf w (T.take g.taken.toNat)).size.toNat (rangeOf w (T.take g.taken.toNat)).peaks.reverse ((T.drop g.taken.toNat).take (h.taken.toNat - g.taken.toNat))).reverse⟩ : RangeD) = rangeOf w (T.take h.taken.toNat) := by
  simp only [rangeOf, t2, u2, v2, List.reverse_reverse, Int.toNat_natCast, e2, RangeD.mk.injEq, and_true]
  omega
 unfold moreS sealOfH
 simp only [x1, x2, rangeOf_root, ← hn]
 have y1 : (rangeOf w (L.take g.size.toNat)).size + (((L.drop g.size.toNat).take (h.size.toNat - g.size.toNat)).length : Int) = h.size := by simp only [rangeOf, t1, v1]; omega
 have y2 : (rangeOf w (T.take g.taken.toNat)).size + (((T.drop g.taken.toNat).take (h.taken.toNat - g.taken.toNat)).length : Int) = h.taken := by simp only [rangeOf, t2, v2]; omega
 rw [y1, y2]
theorem seal_round {w : Int} {L T : List ByteArray} {hs : List HeadD} {j : Nat} {g h : HeadD} (hok : headsOk w hs = true) (hg : hs[j]? = some g) (hd : hs[j + 1]? = some h) (h3 : h.size ≤ L.length) (h4 : h.taken ≤ T.length) :
 let s := moreS w (sealPrev w L T hs (j + 1)) ((L.drop g.size.toNat).take (h.size.toNat - g.size.toNat)) ((T.drop g.taken.toNat).take (h.taken.toNat - g.taken.toNat))
 s.head.eqb h = sealAt w L T hs (j + 1) ∧ (s.head.eqb h = true → s = sealPrev w L T hs (j + 2)) := by
 obtain ⟨_, _, hall⟩ := headsOk_all hok
 have a1 := headAt_ok hg (hall _ (List.getElem?_eq_some_iff.1 hg).1)
 have a2 := headAt_ok hd (hall _ (List.getElem?_eq_some_iff.1 hd).1)
 have a3 := headAt_up hg hd (hall _ (List.getElem?_eq_some_iff.1 hd).1)
 have a4 := headOk_in a1.1
 have hm := moreS_of (w := w) (L := L) (T := T) (g := g) (h := h) a4.1 a4.2.2.1 a3.1 a3.2 h3 h4 (by rw [a1.2, a2.2]; omega)
 simp only
 rw [sealPrev_next hg, hm, sealAt, hd]
 have e : HeadD.eqb ⟨h.number, h.size, treeR w (L.take h.size.toNat), h.taken, treeR w (T.take h.taken.toNat)⟩ h = (decide (h.size ≤ L.length) && decide (h.taken ≤ T.length) && (h.root.toList == (treeR w (L.take h.size.toNat)).toList) && (h.takenRoot.toList == (treeR w (T.take h.taken.toNat)).toList)) := by
  rw [Bool.eq_iff_iff, HeadD.eqb_iff]
  simp only [Bool.and_eq_true, decide_eq_true_eq, beq_iff_eq, bytes_toList]
  refine ⟨fun k => ?_, fun k => ?_⟩
  · rw [← k]; exact ⟨⟨⟨h3, h4⟩, rfl⟩, rfl⟩
  · obtain ⟨⟨_, k1⟩, k2⟩ := k
    rw [← k1, ← k2]
 refine ⟨e, fun k => ?_⟩
 have k2 : (⟨h.number, h.size, treeR w (L.take h.size.toNat), h.taken, treeR w (T.take h.taken.toNat)⟩ : HeadD) = h := (HeadD.eqb_iff _ _).1 k
 rw [sealPrev_next hd]
 exact congrArg (fun x => (⟨rangeOf w (L.take h.size.toNat), rangeOf w (T.take h.taken.toNat), x⟩ : SealD)) k2
theorem seal_zero {w : Int} {L T : List ByteArray} {hs : List HeadD} {h : HeadD} (hd : hs[0]? = some h) (he : h = newH true w) : sealAt w L T hs 0 = true ∧ sealPrev w L T hs 1 = ⟨⟨0, []⟩, ⟨0, []⟩, newH true w⟩ := by
 subst he
 refine ⟨?_, ?_⟩
 · rw [sealAt, hd]
   simp [newH_yes, treeR, mroot_nil]
 · rw [sealPrev_next hd]
   simp [sealOfH, newH_yes, rangeOf, peaksOf]
def Sofar (T : ByteArray) (r : Rd) (X : ByteArray) : Prop := r.bad = false → T.extract 0 r.pos = X ∧ r.pos ≤ T.size
theorem Sofar.start (T : ByteArray) : Sofar T ⟨0, false⟩ ⟨#[]⟩ := fun _ => ⟨by simp; rfl, Nat.zero_le _⟩
theorem rdNext_ok {T : ByteArray} {r : Rd} {n : Nat} (h : (rdNext T r n).bad = false) : r.bad = false ∧ (rdNext T r n).pos = r.pos + n ∧ r.pos + n ≤ T.size ∧ rdTake T r n = T.extract r.pos (r.pos + n) := by
 unfold rdNext at h ⊢
 unfold rdTake
 cases hf : rdFails T r n
 · simp only [rdFails, Bool.or_eq_false_iff, decide_eq_false_iff_not] at hf
   exact ⟨hf.1, rfl, by omega, rfl⟩
 · rw [hf] at h; simp at h
theorem Sofar.take {T : ByteArray} {r : Rd} {X : ByteArray} (h : Sofar T r X) (n : Nat) : Sofar T (rdNext T r n) (X ++ rdTake T r n) := by
 intro hb
 obtain ⟨h1, h2, h3, h4⟩ := rdNext_ok hb
 obtain ⟨h5, h6⟩ := h h1
 refine ⟨?_, by omega⟩
 rw [h2, h4, ← h5]
 exact ByteArray.extract_eq_extract_append_extract r.pos (Nat.zero_le _) (by omega)
set_option maxHeartbeats 1000000
theorem dig4 {T : ByteArray} (h : inR T.size 1 1000 = true) : digestOk 4 4 T = true := by
 obtain ⟨h0, h1⟩ := inR_true h
 simp only [digestOk, Bool.and_eq_true, decide_eq_true_eq]
 exact ⟨⟨by decide, by decide⟩, by omega⟩
theorem dig4_size {T : ByteArray} (h : inR T.size 1 1000 = true) : (digest 4 4 T).size = 4 := digest_size (dig4 h)
def frameB (T : ByteArray) : ByteArray := lowB T.size 2 ++ digest 4 4 T ++ T
def frameOut (T : ByteArray) : ByteArray := if inR T.size 1 1000 then frameB T else ⟨#[]⟩
theorem specFrame_any (T : ByteArray) (w : World) (hT : T.size ≤ maxLen) : Calls Tryz.prog 119 #[.string T] w fun e w' => e = .returned (.tuple #[.string (frameOut T), .bool (inR T.size 1 1000)]) ∧ Ext w w' := by
 have HT := hU hT
 unfold maxLen at hT
 cases b1 : inR T.size 1 1000
 · have E := hU (show frameOut T = ⟨#[]⟩ by simp [frameOut, b1])
   go_enter Tryz.func119, Tryz.ntmps119
   go_wp2_with (go_at_call 181; refine (l01In_any _ _ _ _).mono ?_; rintro e w' ⟨rfl, rfl⟩)
   go_ret2
   exact ⟨by rw [E.out]; rfl, Below.refl _ _⟩
 · have E := hU (show frameOut T = frameB T by simp [frameOut, b1])
   obtain ⟨h0, h1⟩ := inR_true b1
   have d4 := dig4_size b1
   have l2 := lowB_size T.size 2
   have n1 : ¬ 9223372036854775807 < (lowB T.size 2).size + (digest 4 4 T).size := by omega
   have n2 : ¬ 9223372036854775807 < (lowB T.size 2).size + (digest 4 4 T).size + T.size := by omega
   have he := Below.refl w.heap.size w
   go_enter Tryz.func119, Tryz.ntmps119
   go_wp2_with (go_at_call 181; refine (l01In_any _ _ _ _).mono ?_; rintro e w' ⟨rfl, rfl⟩)
   refine (specDigest_any 4 4 T _ HT.out).mono ?_
   rintro e w1 ⟨rfl, hx⟩
   replace he : Ext w w1 := Ext.next he hx
   go_wp2_with fail
   refine (l03Number_any T.size 2 _ (by omega) (by decide)).mono ?_
   rintro e w2 ⟨rfl, hx⟩
   replace he : Ext w w2 := he.next hx
   go_wp2_with fail
   go_ret2
   exact ⟨by rw [E.out]; rfl, he⟩
def fa0 (p : Nat) : Rd := ⟨p, false⟩
def faN (T : ByteArray) (p : Nat) : Nat := beNum (rdTake T (fa0 p) 2)
def fa1 (T : ByteArray) (p : Nat) : Rd := rdNext T (fa0 p) 2
def faSum (T : ByteArray) (p : Nat) : ByteArray := rdTake T (fa1 T p) 4
def fa2 (T : ByteArray) (p : Nat) : Rd := rdNext T (fa1 T p) 4
def faText (T : ByteArray) (p : Nat) : ByteArray := rdTake T (fa2 T p) (faN T p)
def fa3 (T : ByteArray) (p : Nat) : Rd := rdNext T (fa2 T p) (faN T p)
def faOk (T : ByteArray) (p : Nat) : Bool := !(fa3 T p).bad && inR (faN T p) 1 1000 && ((digest 4 4 (faText T p)).toList == (faSum T p).toList)
def svals (l : List ByteArray) : List Value := l.map .string
def unfGo (T : ByteArray) : Nat → Nat → List ByteArray × Nat
 | 0, p => ([], p)
 | f + 1, p => if faOk T p then (faText T p :: (unfGo T f (fa3 T p).pos).1, (unfGo T f (fa3 T p).pos).2) else ([], p)
def unf (T : ByteArray) : List ByteArray × Nat := if T.size ≤ 300000 then unfGo T 600 0 else ([], 0)
theorem faOk_pos {T : ByteArray} {p : Nat} (h : faOk T p = true) : (fa3 T p).pos = p + 6 + faN T p ∧ (fa3 T p).pos ≤ T.size ∧ 1 ≤ faN T p ∧ faN T p ≤ 1000 := by
 simp only [faOk, Bool.and_eq_true, Bool.not_eq_true'] at h
 obtain ⟨⟨h1, h2⟩, h3⟩ := h
 obtain ⟨h4, h5⟩ := inR_true h2
 obtain ⟨a1, a2, a3, _⟩ := rdNext_ok h1
 obtain ⟨b1, b2, b3, _⟩ := rdNext_ok a1
 obtain ⟨c1, c2, c3, _⟩ := rdNext_ok b1
 have e1 : (fa1 T p).pos = p + 2 := c2
 have e2 : (fa2 T p).pos = (fa1 T p).pos + 4 := b2
 have e3 : (fa3 T p).pos = (fa2 T p).pos + faN T p := a2
 omega
structure UInv (T : ByteArray) (fin : List ByteArray × Nat) (l : List ByteArray) (p : Nat) : Prop where
 len : l.length ≤ 600
 pos : p ≤ T.size
 texts : l ++ (unfGo T (600 - l.length) p).1 = fin.1
 at_ : (unfGo T (600 - l.length) p).2 = fin.2
theorem UInv.done {T : ByteArray} {fin : List ByteArray × Nat} {l : List ByteArray} {p : Nat} (h : UInv T fin l p) (hl : 600 ≤ l.length) : l = fin.1 ∧ p = fin.2 := by
 have h1 := h.texts; have h2 := h.at_
 rw [show 600 - l.length = 0 by omega] at h1 h2
 exact ⟨by simpa [unfGo] using h1, h2⟩
theorem UInv.step {T : ByteArray} {fin : List ByteArray × Nat} {l : List ByteArray} {p : Nat} (h : UInv T fin l p) (hl : l.length < 600) (hk : faOk T p = true) : UInv T fin (l ++ [faText T p]) (fa3 T p).pos := by
 have h1 := h.texts; have h2 := h.at_
 rw [show 600 - l.length = (599 - l.length) + 1 by omega] at h1 h2
 simp only [unfGo, hk, if_true] at h1 h2
 have e : 600 - (l ++ [faText T p]).length = 599 - l.length := by rw [List.length_append, List.length_singleton]; omega
 refine ⟨by simp; omega, (faOk_pos hk).2.1, ?_, ?_⟩
 · rw [e, List.append_assoc]; exact h1
 · rw [e]; exact h2
theorem ownsRow_nil (w : World) (B e size : Nat) : w.ownsRow B e size (.slice none 0 0) 0 [] := ⟨by simp, .inl ⟨rfl, rfl⟩⟩
def OwnS (W w : World) (v : Value) (l : List ByteArray) : Prop := w.ownsRow W.heap.size 9 1 v l.length (svals l)

def rr0 : Rd := ⟨0, false⟩
def rr1 (T : ByteArray) : Rd := rdNext T rr0 1
def rr2 (T : ByteArray) : Rd := rdShortNext T (rr1 T) 1
def rr3 (T : ByteArray) : Rd := rdShortNext T (rr2 T) 1
def rr4 (T : ByteArray) : Rd := rdNext T (rr3 T) 2
def rrD (T : ByteArray) : ReceiptD := ⟨rdShort T (rr1 T) 1, rdShort T (rr2 T) 1, (beNum (rdTake T (rr3 T) 2) : Int)⟩
def rrKind (T : ByteArray) : Bool := (rdTake T rr0 1).toList == [82]
def rrImpl (T : ByteArray) : Bool := rrKind T && rdDone T (rr4 T) && receiptOk (rrD T)
def ReceiptD.zero : ReceiptD := ⟨⟨#[]⟩, ⟨#[]⟩, 0⟩
def rl0 : Rd := ⟨0, false⟩
def rl1 (T : ByteArray) : Rd := rdNext T rl0 1
def rl2 (T : ByteArray) : Rd := rdShortNext T (rl1 T) 1
def rl3 (T : ByteArray) : Rd := rdNext T (rl2 T) 2
def rl4 (T : ByteArray) : Rd := rdNext T (rl3 T) 4
def rl5 (T : ByteArray) : Rd := rdShortNext T (rl4 T) 1
def rl6 (T : ByteArray) : Rd := rdShortNext T (rl5 T) 2
def rlD (T : ByteArray) : EntryD := ⟨rdShort T (rl1 T) 1, (beNum (rdTake T (rl2 T) 2) : Int), (beNum (rdTake T (rl3 T) 4) : Int), rdShort T (rl4 T) 1, rdShort T (rl5 T) 2⟩
def rlKind (T : ByteArray) : Bool := (rdTake T rl0 1).toList == [69]
def rlImpl (T : ByteArray) : Bool := rlKind T && rdDone T (rl6 T) && entryOk (rlD T)
def EntryD.zero : EntryD := ⟨⟨#[]⟩, 0, 0, ⟨#[]⟩, ⟨#[]⟩⟩
def Rest (T : ByteArray) (r : Rd) (Y : ByteArray) : Prop := r.bad = false ∧ ∃ X, T = X ++ Y ∧ X.size = r.pos
theorem Rest.start (T : ByteArray) : Rest T ⟨0, false⟩ T := ⟨rfl, ⟨#[]⟩, by rw [show (⟨#[]⟩ : ByteArray) ++ T = T from ByteArray.empty_append], rfl⟩
theorem part_mid (X a Y : ByteArray) : (X ++ (a ++ Y)).extract X.size (X.size + a.size) = a := by
 have h1 : (X ++ (a ++ Y)).extract X.size (X.size + a.size) = (X ++ (a ++ Y)).extract (X.size + 0) (X.size + a.size) := rfl
 apply ByteArray.ext
 rw [← Array.toList_inj]
 simp [ByteArray.data_extract, ByteArray.data_append, List.drop_append, List.take_append, ← ByteArray.size_data]
theorem Rest.take {T : ByteArray} {r : Rd} {a Y : ByteArray} {n : Nat} (h : Rest T r (a ++ Y)) (hn : a.size = n) : rdTake T r n = a ∧ Rest T (rdNext T r n) Y := by
 obtain ⟨hb, X, rfl, hX⟩ := h
 subst hn
 have hf : rdFails (X ++ (a ++ Y)) r a.size = false := by
  simp only [rdFails, hb, Bool.false_or, decide_eq_false_iff_not, ByteArray.size_append]
  omega
 refine ⟨?_, ?_, X ++ a, ?_, ?_⟩
 · rw [rdTake, hf, ← hX]; exact part_mid X a Y
 · rw [rdNext, hf]; rfl
 · rw [ByteArray.append_assoc]
 · rw [rdNext, hf, ByteArray.size_append, hX]; rfl
theorem Rest.done {T : ByteArray} {r : Rd} (h : Rest T r ⟨#[]⟩) : rdDone T r = true := by
 obtain ⟨hb, X, rfl, hX⟩ := h
 rw [rdDone, hb, show X ++ (⟨#[]⟩ : ByteArray) = X from ByteArray.append_empty, hX]
 simp
def fits1 (T : ByteArray) : Bool := inR T.size 1 1000
def framesT : List ByteArray → ByteArray
 | [] => ⟨#[]⟩
 | T :: l => frameB T ++ framesT l
theorem framesT_append : ∀ (a b : List ByteArray), framesT (a ++ b) = framesT a ++ framesT b
 | [], b => by simp [framesT]; exact ByteArray.empty_append.symm
 | T :: a, b => by rw [List.cons_append, framesT, framesT, framesT_append a b, ByteArray.append_assoc]
theorem frameB_size {T : ByteArray} (h : fits1 T = true) : (frameB T).size = T.size + 6 := by
 have := dig4_size h
 have := lowB_size T.size 2
 rw [frameB, ByteArray.size_append, ByteArray.size_append]; omega
theorem fits1_le {T : ByteArray} (h : fits1 T = true) : 1 ≤ T.size ∧ T.size ≤ 1000 := by
 obtain ⟨h0, h1⟩ := inR_true h
 omega
theorem Rest.size {U Y : ByteArray} {r : Rd} (h : Rest U r Y) : U.size = r.pos + Y.size := by
 obtain ⟨_, X, rfl, hX⟩ := h
 rw [ByteArray.size_append, hX]
def framesOk (l : List ByteArray) : Bool := decide (l.length ≤ 600) && l.all fits1 && decide ((framesT l).size ≤ 300000)
def framesOut (l : List ByteArray) : ByteArray := if framesOk l then framesT l else ⟨#[]⟩
theorem framesOk_all {l : List ByteArray} (h : framesOk l = true) : l.length ≤ 600 ∧ (∀ T ∈ l, fits1 T = true) ∧ (framesT l).size ≤ 300000 := by
 simp only [framesOk, Bool.and_eq_true, decide_eq_true_eq, List.all_eq_true] at h
 exact ⟨h.1.1, h.1.2, h.2⟩
theorem framesT_take_le {l : List ByteArray} (k : Nat) : (framesT (l.take k)).size ≤ (framesT l).size := by
 have : framesT l = framesT (l.take k) ++ framesT (l.drop k) := by rw [← framesT_append, List.take_append_drop]
 rw [this, ByteArray.size_append]; omega
theorem framesT_next {l : List ByteArray} {k : Nat} {T : ByteArray} (h : l[k]? = some T) : framesT (l.take (k + 1)) = framesT (l.take k) ++ frameB T := by
 obtain ⟨hk, rfl⟩ := List.getElem?_eq_some_iff.1 h
 rw [List.take_succ_eq_append_getElem hk, framesT_append]
 simp only [framesT]
 rw [append_nil]
theorem framesOk_no1 {l : List ByteArray} {k : Nat} {T : ByteArray} (h : l[k]? = some T) (hf : fits1 T = false) : framesOk l = false := by
 cases hb : framesOk l
 · rfl
 · have := (framesOk_all hb).2.1 T (List.mem_of_getElem? h)
   rw [hf] at this; cases this
theorem framesOk_no2 {l : List ByteArray} {k : Nat} {T : ByteArray} (h : l[k]? = some T) (hf : 300000 < (framesT (l.take k)).size + (frameB T).size) : framesOk l = false := by
 cases hb : framesOk l
 · rfl
 · have h1 := (framesOk_all hb).2.2
   have h2 := framesT_take_le (l := l) (k + 1)
   rw [framesT_next h, ByteArray.size_append] at h2
   omega
theorem framesOk_yes {l : List ByteArray} (h0 : l.length ≤ 600) (h1 : ∀ T ∈ l, fits1 T = true) (h2 : (framesT l).size ≤ 300000) : framesOk l = true := by
 simp only [framesOk, Bool.and_eq_true, decide_eq_true_eq, List.all_eq_true]
 exact ⟨⟨h0, h1⟩, h2⟩
end Go.Proofs.YtlgdghpnfclgpaaGreat
