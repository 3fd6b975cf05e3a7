/-
  What Reopen puts together, as the reference tells it: plain. No walk, no condition.
  The cells of a broker. No condition.
  The program's hash of two hashes: walk. No condition.
-/
import Derived.Test.YtlgdghpnfclgpaaGreatRecs
import Derived.Test.YtlgdghpnfclgpaaGreatSpecRec
import Derived.Test.YtlgdghpnfclgpaaGreatReadLf
import Derived.Test.YtlgdghpnfclgpaaGreatReadHd
import Derived.Test.YtlgdghpnfclgpaaGreatFrames
import Derived.Test.YtlgdghpnfclgpaaGreatLeafText
import Derived.Test.YtlgdghpnfclgpaaGreatFrm
import Derived.Test.YtlgdghpnfclgpaaGreatPath
import Derived.Test.YtlgdghpnfclgpaaGreatHashTop
namespace Go.Proofs.YtlgdghpnfclgpaaGreat
set_option linter.unusedSimpArgs false
open Go.RowKit
set_option linter.unusedVariables false
theorem four_of (b : ByteArray) (h : b.size = 4) : lowB (beNum b) 4 = b := by
 show octB ((beNum b / 256 ^ 3 : Nat) : Int) ++ (octB ((beNum b / 256 ^ 2 : Nat) : Int) ++ (octB ((beNum b / 256 ^ 1 : Nat) : Int) ++ (octB ((beNum b / 256 ^ 0 : Nat) : Int) ++ ⟨#[]⟩))) = b
 rw [append_nil]
 obtain ⟨⟨l⟩⟩ := b
 match l, h with
 | [c, d, e, f], _ =>
   have h1 := c.toNat_lt
   have h2 := d.toNat_lt
   have h3 := e.toNat_lt
   have h4 := f.toNat_lt
   simp only [beNum, octB, ofInts, List.foldl_cons, List.foldl_nil, List.map_cons, List.map_nil]
   rw [ofNat_mod _ c (by omega), ofNat_mod _ d (by omega), ofNat_mod _ e (by omega), ofNat_mod _ f (by omega)]
   rfl
theorem rl_same (T : ByteArray) : rlImpl T = rlSpec T := by
 unfold rlImpl rlSpec
 cases hb : (rl6 T).bad
 · cases hk : entryOk (rlD T)
   · simp
   · have h6 := rdShortNext_ok hb
     have p6 := two_of _ h6.2.2.1
     rw [← h6.2.2.2] at p6
     have h5 := rdShortNext_ok h6.1
     have p5 := lenB _ _ h5.2.2.1 h5.2.2.2
     have h4 := rdNext_ok h5.1
     have p4 := four_of _ (rdTake_full h5.1)
     have h3 := rdNext_ok h4.1
     have p3 := two_of _ (rdTake_full h4.1)
     have h2 := rdShortNext_ok h3.1
     have p2 := lenB _ _ h2.2.2.1 h2.2.2.2
     have hp : (rdTake T rl0 1).size = 1 := rdTake_full h2.1
     have hS : Sofar T (rl6 T) (((((((((⟨#[]⟩ ++ rdTake T rl0 1) ++ rdTake T (rl1 T) 1) ++ rdShort T (rl1 T) 1) ++ rdTake T (rl2 T) 2) ++ rdTake T (rl3 T) 4) ++ rdTake T (rl4 T) 1) ++ rdShort T (rl4 T) 1) ++ rdTake T (rl5 T) 2) ++ rdShort T (rl5 T) 2) :=
      ((((((((((Sofar.start T).take 1).take 1).take _).take 2).take 4).take 1).take _).take 2).take _)
     rw [← p2, ← p3, ← p4, ← p5, ← p6] at hS
     have hE : (⟨#[]⟩ : ByteArray) ++ rdTake T rl0 1 = rdTake T rl0 1 := ByteArray.empty_append
     rw [hE] at hS
     simp only [ByteArray.append_assoc] at hS
     have h := reread (k := ⟨#[69]⟩) hS hb hp
     simp only [leafText, hk, Bool.and_true, Bool.true_and, Bool.not_false, if_true, rlKind, kind_of, bytes_beq]
     rw [h]
     simp only [leafT, rlD, ByteArray.append_assoc, Int.toNat_natCast]
 · rw [reread_bad hb]; simp
theorem rr_same (T : ByteArray) : rrImpl T = rrSpec T := by
 unfold rrImpl rrSpec
 cases hb : (rr4 T).bad
 · cases hk : receiptOk (rrD T)
   · simp
   · have h4 := rdNext_ok hb
     have p3 := two_of _ (rdTake_full hb)
     have h3 := rdShortNext_ok h4.1
     have h2 := rdShortNext_ok h3.1
     have p1 := lenB _ _ h2.2.2.1 h2.2.2.2
     have p2 := lenB _ _ h3.2.2.1 h3.2.2.2
     have hp : (rdTake T rr0 1).size = 1 := rdTake_full h2.1
     have hS : Sofar T (rr4 T) (((((⟨#[]⟩ ++ rdTake T rr0 1) ++ rdTake T (rr1 T) 1 ++ rdShort T (rr1 T) 1) ++ rdTake T (rr2 T) 1 ++ rdShort T (rr2 T) 1)) ++ rdTake T (rr3 T) 2) :=
      (((((((Sofar.start T).take 1).take 1).take _).take 1).take _).take 2)
     rw [← p1, ← p2, ← p3] at hS
     have hE : (⟨#[]⟩ : ByteArray) ++ rdTake T rr0 1 = rdTake T rr0 1 := ByteArray.empty_append
     rw [hE] at hS
     simp only [ByteArray.append_assoc] at hS
     have h := reread (k := ⟨#[82]⟩) hS hb hp
     simp only [receiptText, hk, Bool.and_true, Bool.true_and, Bool.not_false, if_true, rrKind, kind_of, bytes_beq]
     rw [h]
     simp only [receiptT, rrD, ByteArray.append_assoc]
 · rw [reread_bad hb]; simp
theorem unfGo_len (T : ByteArray) : ∀ (f p : Nat), (unfGo T f p).1.length ≤ f
 | 0, p => by simp [unfGo]
 | f + 1, p => by
   rw [unfGo]
   split
   · have := unfGo_len T f (fa3 T p).pos; simp; omega
   · simp
theorem unf_len (T : ByteArray) : (unf T).1.length ≤ 600 := by
 unfold unf
 split
 · exact unfGo_len T 600 0
 · simp
theorem unfGo_size (T : ByteArray) : ∀ (f p : Nat), ∀ x ∈ (unfGo T f p).1, x.size ≤ T.size
 | 0, p => by simp [unfGo]
 | f + 1, p => by
   rw [unfGo]
   split
   · intro x hx
     rcases List.mem_cons.1 hx with rfl | hx
     · unfold faText rdTake
       split
       · exact Nat.zero_le _
       · rw [ByteArray.size_extract]; omega
     · exact unfGo_size T f _ x hx
   · intro x hx; simp at hx
theorem unf_size (T : ByteArray) : ∀ x ∈ (unf T).1, x.size ≤ T.size := by
 unfold unf
 split
 · exact unfGo_size T 600 0
 · intro x hx; simp at hx
theorem unfGo_end (T : ByteArray) : ∀ (f p : Nat), p ≤ T.size → (unfGo T f p).2 ≤ T.size
 | 0, p => fun h => by simpa [unfGo] using h
 | f + 1, p => fun h => by
   rw [unfGo]
   split
   · rename_i hk
     exact unfGo_end T f _ (faOk_pos hk).2.1
   · exact h
theorem unf_end (T : ByteArray) : (unf T).2 ≤ T.size := by
 unfold unf
 split
 · exact unfGo_end T 600 0 (Nat.zero_le _)
 · exact Nat.zero_le _
theorem dmgs_len : ∀ (l : List ByteArray) (i : Nat), (dmgs i l).length ≤ l.length
 | [], i => Nat.le_refl _
 | x :: t, i => by
   have h := dmgs_len t (i + 1)
   have h1 : (dmg1 i x).length ≤ 1 := by unfold dmg1; split <;> simp
   simp only [dmgs, List.length_append, List.length_cons]
   omega
theorem files_len (l : List ByteArray) (i : Nat) : (filesOf l i).length ≤ 600 := unf_len _
theorem files_size {l : List ByteArray} (h : ∀ x ∈ l, x.size ≤ 1099511627776) (i : Nat) : ∀ x ∈ filesOf l i, x.size ≤ 1099511627776 := by
 intro x hx
 refine Nat.le_trans (unf_size _ x hx) ?_
 rw [List.getD_eq_getElem?_getD]
 cases e : l[i]? with
 | none => exact Nat.zero_le _
 | some y => exact h y (List.mem_of_getElem? e)
def rrOutQ (ok : Bool) (d : ReceiptD) : ReceiptD := if ok then d else ⟨⟨#[]⟩, ⟨#[]⟩, 0⟩
def esS (l : List ByteArray) : List EntryD := (filesOf l 0).map fun x => rlOut (rlSpec x) (rlD x)
def rsS (l : List ByteArray) : List ReceiptD := (filesOf l 2).map fun x => rrOutQ (rrSpec x) (rrD x)
def hsS (n : Int) (l : List ByteArray) : List HeadD := (filesOf l 1).map fun x => hrOut (hrSpec n x) (hrD n x)
def code1 (l : List ByteArray) : Nat := if (filesOf l 0).all rlSpec && logOk (esS l) then 0 else 2
def code2 (l : List ByteArray) : Nat := if code1 l = 0 then (if (filesOf l 2).all rrSpec && recsOk (rsS l) then 0 else 3) else code1 l
def code3 (n : Int) (l : List ByteArray) : Nat := if code2 l = 0 then (if (filesOf l 1).all (hrSpec n) && decide ((newH true n :: hsS n l).length ≤ 400) then 0 else 4) else code2 l
def code4 (n : Int) (l : List ByteArray) : Nat := if code3 n l = 0 then (if brkParts (reB0 n l) then 0 else 4) else code3 n l
theorem all_map {α β : Type} {p : α → Bool} {f g : α → β} : ∀ {l : List α}, l.all p = true → (∀ x, p x = true → f x = g x) → l.map f = l.map g := by
 intro l h hf
 exact List.map_congr_left fun x hx => hf x (List.all_eq_true.1 h x hx)
theorem esS_good {l : List ByteArray} (h : (filesOf l 0).all rlSpec = true) : esS l = (reB0 0 l).log.entries := all_map h fun x hx => by rw [hx]; rfl
theorem rsS_good {l : List ByteArray} (h : (filesOf l 2).all rrSpec = true) : rsS l = (reB0 0 l).receipts := all_map h fun x hx => by rw [hx]; rfl
theorem hsS_good {n : Int} {l : List ByteArray} (h : (filesOf l 1).all (hrSpec n) = true) : newH true n :: hsS n l = (reB0 n l).heads := by
 show _ = newH true n :: (filesOf l 1).map (hrD n)
 rw [show hsS n l = (filesOf l 1).map (hrD n) from all_map h fun x hx => by rw [hx]; rfl]
theorem rl_all (l : List ByteArray) : l.all rlImpl = l.all rlSpec := by rw [show rlImpl = rlSpec from funext rl_same]
theorem rr_all (l : List ByteArray) : l.all rrImpl = l.all rrSpec := by rw [show rrImpl = rrSpec from funext rr_same]
theorem hr_all (n : Int) (l : List ByteArray) : l.all (hrImpl n) = l.all (hrSpec n) := by rw [show hrImpl n = hrSpec n from funext (hr_same n)]
theorem parts_heads {b : BrokerD} (h : brkParts b = true) : b.heads.length ≤ 400 := by
 simp only [brkParts, Bool.and_eq_true, decide_eq_true_eq] at h
 exact (headsOk_all h.1.1.1.2).2.1
theorem code1_eq (l : List ByteArray) : code1 l = if (filesOf l 0).all rlImpl && logOk (reB0 0 l).log.entries then 0 else 2 := by
 unfold code1
 rw [rl_all]
 cases h : (filesOf l 0).all rlSpec
 · simp
 · rw [esS_good h]
theorem code4_eq (n : Int) (l : List ByteArray) (h : (inR n 1 32 && diskOk l) = true) : code4 n l = reCode n l := by
 unfold code4 code3 code2 reCode
 rw [code1_eq, h, rl_all, rr_all, hr_all]
 show _ = if (!true) = true then 1 else if (!((filesOf l 0).all rlSpec && logOk (reB0 0 l).log.entries)) = true then 2 else if (!((filesOf l 2).all rrSpec && recsOk (reB0 0 l).receipts)) = true then 3 else if (!((filesOf l 1).all (hrSpec n) && brkParts (reB0 n l))) = true then 4 else 0
 cases a : (filesOf l 0).all rlSpec && logOk (reB0 0 l).log.entries
 · simp
 · cases b : (filesOf l 2).all rrSpec
   · simp
   · rw [rsS_good b]
     cases c : recsOk (reB0 0 l).receipts
     · simp
     · cases d : (filesOf l 1).all (hrSpec n)
       · simp
       · rw [hsS_good d]
         cases e : brkParts (reB0 n l)
         · simp
         · have := parts_heads e
           simp [this]
theorem parts_last {b : BrokerD} (h : brkParts b = true) : (lastH b.heads).size ≤ b.log.entries.length ∧ (lastH b.heads).taken ≤ b.receipts.length := by
 simp only [brkParts, Bool.and_eq_true, decide_eq_true_eq] at h
 obtain ⟨⟨⟨⟨⟨⟨⟨hw, hlog⟩, hrec⟩, h0⟩, hh⟩, hz0⟩, hsl⟩, hrd⟩ := h
 have hl := last_at h0
 have sl := allTo_iff.1 hsl (b.heads.length - 1) (by omega)
 rw [sealAt, hl] at sl
 simp only [Bool.and_eq_true, decide_eq_true_eq, beq_iff_eq, bytes_toList] at sl
 obtain ⟨⟨⟨q1, q2⟩, q3⟩, q4⟩ := sl
 simp only [leavesH, takenH, List.length_map] at q1 q2
 exact ⟨q1, q2⟩
theorem last_in {n : Int} {l : List ByteArray} (h : (filesOf l 1).all (hrSpec n) = true) : 0 ≤ (lastH (reB0 n l).heads).size ∧ 0 ≤ (lastH (reB0 n l).heads).taken := by
 have hl := last_at (hs := (reB0 n l).heads) (by simp [reB0])
 rcases List.mem_cons.1 (List.mem_of_getElem? hl) with e | e
 · rw [e]; exact ⟨Int.le_refl _, Int.le_refl _⟩
 · obtain ⟨x, hx, e⟩ := List.mem_map.1 e
   rw [← e]
   have h2 := List.all_eq_true.1 h x hx
   simp only [hrSpec, Bool.and_eq_true] at h2
   have := headOk_in h2.2.2.1
   omega
end Go.Proofs.YtlgdghpnfclgpaaGreat
namespace Go.Proofs.YtlgdghpnfclgpaaGreat
set_option linter.unusedSimpArgs false
open Go.RowKit
set_option linter.unusedVariables false
def brkV (b : BrokerD) (A0 : Option Addr) (c0 : Nat) (A1 : Option Addr) (c1 : Nat) (A2 : Option Addr) (c2 : Nat) (A3 : Option Addr) (c3 : Nat) (A4 : Option Addr) (c4 : Nat) : List Value :=
 [.int .i64 b.width, .slice A0 b.log.entries.length c0, .slice A1 b.receipts.length c1, .slice A2 b.heads.length c2, .int .i64 b.sealed.leaves.size, .slice A3 b.sealed.leaves.peaks.length c3, .int .i64 b.sealed.taken.size, .slice A4 b.sealed.taken.peaks.length c4, .int .i64 b.sealed.head.number, .int .i64 b.sealed.head.size, .string b.sealed.head.root, .int .i64 b.sealed.head.taken, .string b.sealed.head.takenRoot]
end Go.Proofs.YtlgdghpnfclgpaaGreat
namespace Go.Proofs.YtlgdghpnfclgpaaGreat
set_option linter.unusedSimpArgs false
open Go.RowKit
set_option linter.unusedVariables false
set_option maxHeartbeats 1000000 in
theorem node_any (n : Int) (a b : ByteArray) (w : World) (ha : a.size ≤ 1000) (hb : b.size ≤ 1000) : Calls Tryz.prog 240 #[.int .i64 n, .string a, .string b] w fun e w' => e = .returned (.string (nodeT n (a ++ b))) ∧ Ext w w' := by
 have hs : (a ++ b).size ≤ maxLen := by rw [ByteArray.size_append]; unfold maxLen; omega
 go_enter Tryz.func240, Tryz.ntmps240
 go_wp2_with fail
 refine (Digest_any n 1 (a ++ b) _ hs).mono ?_
 rintro e w1 ⟨rfl, h1⟩
 go_wp2_with fail
 go_ret
 exact ⟨rfl, h1⟩
end Go.Proofs.YtlgdghpnfclgpaaGreat
