/-
  Reread; Frames; Unfr; UnfrLaw; ReadRec; ReadLf; LeafBk; FramesLaw: No condition.
-/
import Derived.Test.YthnpdoadmglipaaGreatWords
import Derived.Test.YthnpdoadmglipaaGreatHeadOps
import Derived.Test.YthnpdoadmglipaaGreatHashTop
import Derived.Test.YthnpdoadmglipaaGreatSpecPad
import Derived.Test.YthnpdoadmglipaaGreatLeaf
import Derived.Test.YthnpdoadmglipaaGreatClientNw
namespace Go.Proofs.YthnpdoadmglipaaGreat
set_option linter.unusedSimpArgs false
open Go.RowKit
set_option linter.unusedVariables false
def Sofar (T : ByteArray) (r : Rd) (X : ByteArray) : Prop := r.bad = false → T.extract 0 r.pos = X ∧ r.pos ≤ T.size
theorem Sofar.start (T : ByteArray) : Sofar T ⟨0, false⟩ ⟨#[]⟩ := fun _ => ⟨by simp; rfl, Nat.zero_le _⟩
theorem rdNext_ok {T : ByteArray} {r : Rd} {n : Nat} (h : (rdNext T r n).bad = false) : r.bad = false ∧ (rdNext T r n).pos = r.pos + n ∧ r.pos + n ≤ T.size ∧ rdTake T r n = T.extract r.pos (r.pos + n) := by
 unfold rdNext at h ⊢
 unfold rdTake
 cases hf : rdFails T r n
 · simp only [rdFails, Bool.or_eq_false_iff, decide_eq_false_iff_not] at hf
   exact ⟨hf.1, rfl, by omega, rfl⟩
 · rw [hf] at h; simp at h
theorem Sofar.take {T : ByteArray} {r : Rd} {X : ByteArray} (h : Sofar T r X) (n : Nat) : Sofar T (rdNext T r n) (X ++ rdTake T r n) := by
 intro hb
 obtain ⟨h1, h2, h3, h4⟩ := rdNext_ok hb
 obtain ⟨h5, h6⟩ := h h1
 refine ⟨?_, by omega⟩
 rw [h2, h4, ← h5]
 exact ByteArray.extract_eq_extract_append_extract r.pos (Nat.zero_le _) (by omega)
set_option maxHeartbeats 1000000
theorem dig4 {T : ByteArray} (h : inR T.size 1 1000 = true) : digestOk 4 4 T = true := by
 obtain ⟨h0, h1⟩ := inR_true h
 simp only [digestOk, Bool.and_eq_true, decide_eq_true_eq]
 exact ⟨⟨by decide, by decide⟩, by omega⟩
theorem dig4_size {T : ByteArray} (h : inR T.size 1 1000 = true) : (digest 4 4 T).size = 4 := digest_size (dig4 h)
def frameB (T : ByteArray) : ByteArray := lowB T.size 2 ++ digest 4 4 T ++ T
def frameOut (T : ByteArray) : ByteArray := if inR T.size 1 1000 then frameB T else ⟨#[]⟩
theorem specFrame_any (T : ByteArray) (w : World) (hT : T.size ≤ maxLen) : Calls Tryz.prog 48 #[.string T] w fun e w' => e = .returned (.tuple #[.string (frameOut T), .bool (inR T.size 1 1000)]) ∧ Ext w w' := by
 have HT := hU hT
 unfold maxLen at hT
 cases b1 : inR T.size 1 1000
 · have E := hU (show frameOut T = ⟨#[]⟩ by simp [frameOut, b1])
   go_enter Tryz.func48, Tryz.ntmps48
   go_wp2_with (go_at_call 84; refine (l01In_any _ _ _ _).mono ?_; rintro e w' ⟨rfl, rfl⟩)
   go_ret2
   exact ⟨by rw [E.out]; rfl, Below.refl _ _⟩
 · have E := hU (show frameOut T = frameB T by simp [frameOut, b1])
   obtain ⟨h0, h1⟩ := inR_true b1
   have d4 := dig4_size b1
   have l2 := lowB_size T.size 2
   have n1 : ¬ 9223372036854775807 < (lowB T.size 2).size + (digest 4 4 T).size := by omega
   have n2 : ¬ 9223372036854775807 < (lowB T.size 2).size + (digest 4 4 T).size + T.size := by omega
   have he := Below.refl w.heap.size w
   go_enter Tryz.func48, Tryz.ntmps48
   go_wp2_with (go_at_call 84; refine (l01In_any _ _ _ _).mono ?_; rintro e w' ⟨rfl, rfl⟩)
   refine (specDigest_any 4 4 T _ HT.out).mono ?_
   rintro e w1 ⟨rfl, hx⟩
   replace he : Ext w w1 := Ext.next he hx
   go_wp2_with fail
   refine (l03Number_any T.size 2 _ (by omega) (by decide)).mono ?_
   rintro e w2 ⟨rfl, hx⟩
   replace he : Ext w w2 := he.next hx
   go_wp2_with fail
   go_ret2
   exact ⟨by rw [E.out]; rfl, he⟩
def fa0 (p : Nat) : Rd := ⟨p, false⟩
def faN (T : ByteArray) (p : Nat) : Nat := beNum (rdTake T (fa0 p) 2)
def fa1 (T : ByteArray) (p : Nat) : Rd := rdNext T (fa0 p) 2
def faSum (T : ByteArray) (p : Nat) : ByteArray := rdTake T (fa1 T p) 4
def fa2 (T : ByteArray) (p : Nat) : Rd := rdNext T (fa1 T p) 4
def faText (T : ByteArray) (p : Nat) : ByteArray := rdTake T (fa2 T p) (faN T p)
def fa3 (T : ByteArray) (p : Nat) : Rd := rdNext T (fa2 T p) (faN T p)
def faOk (T : ByteArray) (p : Nat) : Bool := !(fa3 T p).bad && inR (faN T p) 1 1000 && ((digest 4 4 (faText T p)).toList == (faSum T p).toList)
def svals (l : List ByteArray) : List Value := l.map .string
def unfGo (T : ByteArray) : Nat → Nat → List ByteArray × Nat
 | 0, p => ([], p)
 | f + 1, p => if faOk T p then (faText T p :: (unfGo T f (fa3 T p).pos).1, (unfGo T f (fa3 T p).pos).2) else ([], p)
def unf (T : ByteArray) : List ByteArray × Nat := if T.size ≤ 300000 then unfGo T 600 0 else ([], 0)
theorem faOk_pos {T : ByteArray} {p : Nat} (h : faOk T p = true) : (fa3 T p).pos = p + 6 + faN T p ∧ (fa3 T p).pos ≤ T.size ∧ 1 ≤ faN T p ∧ faN T p ≤ 1000 := by
 simp only [faOk, Bool.and_eq_true, Bool.not_eq_true'] at h
 obtain ⟨⟨h1, h2⟩, h3⟩ := h
 obtain ⟨h4, h5⟩ := inR_true h2
 obtain ⟨a1, a2, a3, _⟩ := rdNext_ok h1
 obtain ⟨b1, b2, b3, _⟩ := rdNext_ok a1
 obtain ⟨c1, c2, c3, _⟩ := rdNext_ok b1
 have e1 : (fa1 T p).pos = p + 2 := c2
 have e2 : (fa2 T p).pos = (fa1 T p).pos + 4 := b2
 have e3 : (fa3 T p).pos = (fa2 T p).pos + faN T p := a2
 omega
structure UInv (T : ByteArray) (fin : List ByteArray × Nat) (l : List ByteArray) (p : Nat) : Prop where
 len : l.length ≤ 600
 pos : p ≤ T.size
 texts : l ++ (unfGo T (600 - l.length) p).1 = fin.1
 at_ : (unfGo T (600 - l.length) p).2 = fin.2
theorem UInv.done {T : ByteArray} {fin : List ByteArray × Nat} {l : List ByteArray} {p : Nat} (h : UInv T fin l p) (hl : 600 ≤ l.length) : l = fin.1 ∧ p = fin.2 := by
 have h1 := h.texts; have h2 := h.at_
 rw [show 600 - l.length = 0 by omega] at h1 h2
 exact ⟨by simpa [unfGo] using h1, h2⟩
theorem UInv.step {T : ByteArray} {fin : List ByteArray × Nat} {l : List ByteArray} {p : Nat} (h : UInv T fin l p) (hl : l.length < 600) (hk : faOk T p = true) : UInv T fin (l ++ [faText T p]) (fa3 T p).pos := by
 have h1 := h.texts; have h2 := h.at_
 rw [show 600 - l.length = (599 - l.length) + 1 by omega] at h1 h2
 simp only [unfGo, hk, if_true] at h1 h2
 have e : 600 - (l ++ [faText T p]).length = 599 - l.length := by rw [List.length_append, List.length_singleton]; omega
 refine ⟨by simp; omega, (faOk_pos hk).2.1, ?_, ?_⟩
 · rw [e, List.append_assoc]; exact h1
 · rw [e]; exact h2
theorem ownsRow_nil (w : World) (B e size : Nat) : w.ownsRow B e size (.slice none 0 0) 0 [] := ⟨by simp, .inl ⟨rfl, rfl⟩⟩
def OwnS (W w : World) (v : Value) (l : List ByteArray) : Prop := w.ownsRow W.heap.size 9 1 v l.length (svals l)

def rr0 : Rd := ⟨0, false⟩
def rr1 (T : ByteArray) : Rd := rdNext T rr0 1
def rr2 (T : ByteArray) : Rd := rdShortNext T (rr1 T) 1
def rr3 (T : ByteArray) : Rd := rdShortNext T (rr2 T) 1
def rr4 (T : ByteArray) : Rd := rdNext T (rr3 T) 2
def rrD (T : ByteArray) : ReceiptD := ⟨rdShort T (rr1 T) 1, rdShort T (rr2 T) 1, (beNum (rdTake T (rr3 T) 2) : Int)⟩
def rrKind (T : ByteArray) : Bool := (rdTake T rr0 1).toList == [82]
def rrImpl (T : ByteArray) : Bool := rrKind T && rdDone T (rr4 T) && receiptOk (rrD T)
def ReceiptD.zero : ReceiptD := ⟨⟨#[]⟩, ⟨#[]⟩, 0⟩
def rl0 : Rd := ⟨0, false⟩
def rl1 (T : ByteArray) : Rd := rdNext T rl0 1
def rl2 (T : ByteArray) : Rd := rdShortNext T (rl1 T) 1
def rl3 (T : ByteArray) : Rd := rdNext T (rl2 T) 2
def rl4 (T : ByteArray) : Rd := rdNext T (rl3 T) 4
def rl5 (T : ByteArray) : Rd := rdShortNext T (rl4 T) 1
def rl6 (T : ByteArray) : Rd := rdShortNext T (rl5 T) 2
def rlD (T : ByteArray) : EntryD := ⟨rdShort T (rl1 T) 1, (beNum (rdTake T (rl2 T) 2) : Int), (beNum (rdTake T (rl3 T) 4) : Int), rdShort T (rl4 T) 1, rdShort T (rl5 T) 2⟩
def rlKind (T : ByteArray) : Bool := (rdTake T rl0 1).toList == [69]
def rlImpl (T : ByteArray) : Bool := rlKind T && rdDone T (rl6 T) && entryOk (rlD T)
def EntryD.zero : EntryD := ⟨⟨#[]⟩, 0, 0, ⟨#[]⟩, ⟨#[]⟩⟩
def Rest (T : ByteArray) (r : Rd) (Y : ByteArray) : Prop := r.bad = false ∧ ∃ X, T = X ++ Y ∧ X.size = r.pos
theorem Rest.start (T : ByteArray) : Rest T ⟨0, false⟩ T := ⟨rfl, ⟨#[]⟩, by rw [show (⟨#[]⟩ : ByteArray) ++ T = T from ByteArray.empty_append], rfl⟩
theorem part_mid (X a Y : ByteArray) : (X ++ (a ++ Y)).extract X.size (X.size + a.size) = a := by
 have h1 : (X ++ (a ++ Y)).extract X.size (X.size + a.size) = (X ++ (a ++ Y)).extract (X.size + 0) (X.size + a.size) := rfl
 apply ByteArray.ext
 rw [← Array.toList_inj]
 simp [ByteArray.data_extract, ByteArray.data_append, List.drop_append, List.take_append, ← ByteArray.size_data]
theorem Rest.take {T : ByteArray} {r : Rd} {a Y : ByteArray} {n : Nat} (h : Rest T r (a ++ Y)) (hn : a.size = n) : rdTake T r n = a ∧ Rest T (rdNext T r n) Y := by
 obtain ⟨hb, X, rfl, hX⟩ := h
 subst hn
 have hf : rdFails (X ++ (a ++ Y)) r a.size = false := by
  simp only [rdFails, hb, Bool.false_or, decide_eq_false_iff_not, ByteArray.size_append]
  omega
 refine ⟨?_, ?_, X ++ a, ?_, ?_⟩
 · rw [rdTake, hf, ← hX]; exact part_mid X a Y
 · rw [rdNext, hf]; rfl
 · rw [ByteArray.append_assoc]
 · rw [rdNext, hf, ByteArray.size_append, hX]; rfl
theorem Rest.done {T : ByteArray} {r : Rd} (h : Rest T r ⟨#[]⟩) : rdDone T r = true := by
 obtain ⟨hb, X, rfl, hX⟩ := h
 rw [rdDone, hb, show X ++ (⟨#[]⟩ : ByteArray) = X from ByteArray.append_empty, hX]
 simp
theorem beNum_oct2 (k : Nat) (h : k < 65536) : beNum (octB ((k : Int) / 256) ++ octB (k : Int)) = k := by
 have e : (k : Int) / 256 = ((k / 256 : Nat) : Int) := by omega
 rw [e]
 simp [beNum, octB, ofInts, ByteArray.data_append, UInt8.toNat_ofNat']
 omega
theorem nat_of {x : Int} (h : 0 ≤ x) : ∃ k : Nat, x = (k : Int) := ⟨x.toNat, by omega⟩
def fits1 (T : ByteArray) : Bool := inR T.size 1 1000
def framesT : List ByteArray → ByteArray
 | [] => ⟨#[]⟩
 | T :: l => frameB T ++ framesT l
theorem framesT_append : ∀ (a b : List ByteArray), framesT (a ++ b) = framesT a ++ framesT b
 | [], b => by simp [framesT]; exact ByteArray.empty_append.symm
 | T :: a, b => by rw [List.cons_append, framesT, framesT, framesT_append a b, ByteArray.append_assoc]
theorem frameB_size {T : ByteArray} (h : fits1 T = true) : (frameB T).size = T.size + 6 := by
 have := dig4_size h
 have := lowB_size T.size 2
 rw [frameB, ByteArray.size_append, ByteArray.size_append]; omega
theorem fits1_le {T : ByteArray} (h : fits1 T = true) : 1 ≤ T.size ∧ T.size ≤ 1000 := by
 obtain ⟨h0, h1⟩ := inR_true h
 omega
theorem beNum_low2 {n : Nat} (h : n < 65536) : beNum (lowB n 2) = n := by rw [lowB_two]; exact beNum_oct2 n h
theorem Rest.size {U Y : ByteArray} {r : Rd} (h : Rest U r Y) : U.size = r.pos + Y.size := by
 obtain ⟨_, X, rfl, hX⟩ := h
 rw [ByteArray.size_append, hX]
def framesOk (l : List ByteArray) : Bool := decide (l.length ≤ 600) && l.all fits1 && decide ((framesT l).size ≤ 300000)
def framesOut (l : List ByteArray) : ByteArray := if framesOk l then framesT l else ⟨#[]⟩
theorem framesOk_all {l : List ByteArray} (h : framesOk l = true) : l.length ≤ 600 ∧ (∀ T ∈ l, fits1 T = true) ∧ (framesT l).size ≤ 300000 := by
 simp only [framesOk, Bool.and_eq_true, decide_eq_true_eq, List.all_eq_true] at h
 exact ⟨h.1.1, h.1.2, h.2⟩
theorem framesT_take_le {l : List ByteArray} (k : Nat) : (framesT (l.take k)).size ≤ (framesT l).size := by
 have : framesT l = framesT (l.take k) ++ framesT (l.drop k) := by rw [← framesT_append, List.take_append_drop]
 rw [this, ByteArray.size_append]; omega
theorem framesT_next {l : List ByteArray} {k : Nat} {T : ByteArray} (h : l[k]? = some T) : framesT (l.take (k + 1)) = framesT (l.take k) ++ frameB T := by
 obtain ⟨hk, rfl⟩ := List.getElem?_eq_some_iff.1 h
 rw [List.take_succ_eq_append_getElem hk, framesT_append]
 simp only [framesT]
 rw [append_nil]
theorem framesOk_no1 {l : List ByteArray} {k : Nat} {T : ByteArray} (h : l[k]? = some T) (hf : fits1 T = false) : framesOk l = false := by
 cases hb : framesOk l
 · rfl
 · have := (framesOk_all hb).2.1 T (List.mem_of_getElem? h)
   rw [hf] at this; cases this
theorem framesOk_no2 {l : List ByteArray} {k : Nat} {T : ByteArray} (h : l[k]? = some T) (hf : 300000 < (framesT (l.take k)).size + (frameB T).size) : framesOk l = false := by
 cases hb : framesOk l
 · rfl
 · have h1 := (framesOk_all hb).2.2
   have h2 := framesT_take_le (l := l) (k + 1)
   rw [framesT_next h, ByteArray.size_append] at h2
   omega
theorem framesOk_yes {l : List ByteArray} (h0 : l.length ≤ 600) (h1 : ∀ T ∈ l, fits1 T = true) (h2 : (framesT l).size ≤ 300000) : framesOk l = true := by
 simp only [framesOk, Bool.and_eq_true, decide_eq_true_eq, List.all_eq_true]
 exact ⟨⟨h0, h1⟩, h2⟩
end Go.Proofs.YthnpdoadmglipaaGreat
