/-
  Texts of entries and of receipts come back: plain. No condition.
-/
import Derived.Test.YtichegndafnjeaaReadLf
import Derived.Test.YtichegndafnjeaaReread
namespace Go.Proofs.Ytichegndafnjeaa
open Go.RowKit
set_option linter.unusedVariables false

/-- What is still to be read. -/
def Rest (T : ByteArray) (r : Rd) (Y : ByteArray) : Prop := r.bad = false ∧ ∃ X, T = X ++ Y ∧ X.size = r.pos
theorem Rest.start (T : ByteArray) : Rest T ⟨0, false⟩ T := ⟨rfl, ⟨#[]⟩, by rw [show (⟨#[]⟩ : ByteArray) ++ T = T from ByteArray.empty_append], rfl⟩
theorem part_mid (X a Y : ByteArray) : (X ++ (a ++ Y)).extract X.size (X.size + a.size) = a := by
  have h1 : (X ++ (a ++ Y)).extract X.size (X.size + a.size) = (X ++ (a ++ Y)).extract (X.size + 0) (X.size + a.size) := rfl
  apply ByteArray.ext
  rw [← Array.toList_inj]
  simp [ByteArray.data_extract, ByteArray.data_append, List.drop_append, List.take_append, ← ByteArray.size_data]
theorem Rest.take {T : ByteArray} {r : Rd} {a Y : ByteArray} {n : Nat} (h : Rest T r (a ++ Y)) (hn : a.size = n) : rdTake T r n = a ∧ Rest T (rdNext T r n) Y := by
  obtain ⟨hb, X, rfl, hX⟩ := h
  subst hn
  have hf : rdFails (X ++ (a ++ Y)) r a.size = false := by
    simp only [rdFails, hb, Bool.false_or, decide_eq_false_iff_not, ByteArray.size_append]
    omega
  refine ⟨?_, ?_, X ++ a, ?_, ?_⟩
  · rw [rdTake, hf, ← hX]; exact part_mid X a Y
  · rw [rdNext, hf]; rfl
  · rw [ByteArray.append_assoc]
  · rw [rdNext, hf, ByteArray.size_append, hX]; rfl
theorem Rest.short {T : ByteArray} {r : Rd} {b a Y : ByteArray} {n : Nat} (h : Rest T r (b ++ (a ++ Y))) (hn : b.size = n) (hb : beNum b = a.size) : rdShort T r n = a ∧ Rest T (rdShortNext T r n) Y := by
  obtain ⟨h1, h2⟩ := h.take hn
  rw [rdShort, rdShortNext, h1, hb]
  exact h2.take rfl
theorem Rest.done {T : ByteArray} {r : Rd} (h : Rest T r ⟨#[]⟩) : rdDone T r = true := by
  obtain ⟨hb, X, rfl, hX⟩ := h
  rw [rdDone, hb, show X ++ (⟨#[]⟩ : ByteArray) = X from ByteArray.append_empty, hX]
  simp
theorem beNum_oct (k : Nat) (h : k < 256) : beNum (octB (k : Int)) = k := by
  have : (UInt8.ofNat k).toNat = k := by simp [UInt8.toNat_ofNat']; omega
  simp [beNum, octB, ofInts, this]
  omega
theorem beNum_oct2 (k : Nat) (h : k < 65536) : beNum (octB ((k : Int) / 256) ++ octB (k : Int)) = k := by
  have e : (k : Int) / 256 = ((k / 256 : Nat) : Int) := by omega
  rw [e]
  simp [beNum, octB, ofInts, ByteArray.data_append, UInt8.toNat_ofNat']
  omega
theorem beNum_four (k : Nat) (h : k < 4294967296) : beNum (lowB k 4) = k := by
  show beNum (octB ((k / 256 ^ 3 : Nat) : Int) ++ (octB ((k / 256 ^ 2 : Nat) : Int) ++ (octB ((k / 256 ^ 1 : Nat) : Int) ++ (octB ((k / 256 ^ 0 : Nat) : Int) ++ ⟨#[]⟩)))) = k
  simp [beNum, octB, ofInts, ByteArray.data_append, UInt8.toNat_ofNat']
  omega
theorem two_size (a b : Int) : (octB a ++ octB b).size = 2 := by rw [ByteArray.size_append]; rfl
theorem nat_of {x : Int} (h : 0 ≤ x) : ∃ k : Nat, x = (k : Int) := ⟨x.toNat, by omega⟩
theorem receipt_back {d : ReceiptD} (h : receiptOk d = true) : rrImpl (receiptText d) = true ∧ rrD (receiptText d) = d := by
  obtain ⟨a, t, i⟩ := d
  have hk := h
  simp only [receiptOk, Bool.and_eq_true] at h
  obtain ⟨⟨h1, h2⟩, h3⟩ := h
  have s1 := nameOk_size h1
  have s2 := nameOk_size h2
  obtain ⟨i0, i1⟩ := inR_true h3
  obtain ⟨k, rfl⟩ := nat_of i0
  have R0 := Rest.start (receiptText ⟨a, t, (k : Int)⟩)
  have e : receiptText ⟨a, t, (k : Int)⟩ = ⟨#[82]⟩ ++ (octB a.size ++ (a ++ (octB t.size ++ (t ++ ((octB ((k : Int) / 256) ++ octB (k : Int)) ++ ⟨#[]⟩))))) := by
    rw [receiptText, hk, if_pos rfl, receiptT, show ∀ X : ByteArray, X ++ (⟨#[]⟩ : ByteArray) = X from fun X => ByteArray.append_empty]
    simp only [ByteArray.append_assoc]
  generalize receiptText ⟨a, t, (k : Int)⟩ = T at *
  rw [e] at R0
  obtain ⟨p0, R1⟩ := R0.take (n := 1) rfl
  rw [← e] at p0 R1
  obtain ⟨p1, R2⟩ := R1.short (n := 1) rfl (beNum_oct _ (by omega))
  obtain ⟨p2, R3⟩ := R2.short (n := 1) rfl (beNum_oct _ (by omega))
  obtain ⟨p3, R4⟩ := R3.take (n := 2) (two_size _ _)
  have hD : rrD T = ⟨a, t, (k : Int)⟩ := by
    show (⟨rdShort T (rr1 T) 1, rdShort T (rr2 T) 1, (beNum (rdTake T (rr3 T) 2) : Int)⟩ : ReceiptD) = _
    rw [show rdShort T (rr1 T) 1 = a from p1, show rdShort T (rr2 T) 1 = t from p2, show rdTake T (rr3 T) 2 = _ from p3, beNum_oct2 _ (by omega)]
  refine ⟨?_, hD⟩
  rw [rrImpl, hD, hk, rrKind, show rdTake T rr0 1 = _ from p0, show rdDone T (rr4 T) = true from R4.done, kind_of]
  simp
theorem leaf_back {d : EntryD} (h : entryOk d = true) : rlImpl (leafText d) = true ∧ rlD (leafText d) = d := by
  obtain ⟨t, i, m, y, b⟩ := d
  have hk := h
  simp only [entryOk, partsB, Bool.and_eq_true, decide_eq_true_eq] at h
  obtain ⟨⟨h1, h3⟩, ⟨h4, h5⟩, h6⟩ := h
  have s1 := nameOk_size h1
  obtain ⟨i0, i1⟩ := inR_true h3
  obtain ⟨m0, m1⟩ := inR_true h4
  obtain ⟨k, rfl⟩ := nat_of i0
  obtain ⟨n, rfl⟩ := nat_of m0
  (try simp only at s1 h5 h6 i1 m1)
  have R0 := Rest.start (leafText ⟨t, (k : Int), (n : Int), y, b⟩)
  have e : leafText ⟨t, (k : Int), (n : Int), y, b⟩ = ⟨#[69]⟩ ++ (octB t.size ++ (t ++ ((octB ((k : Int) / 256) ++ octB (k : Int)) ++ (lowB n 4 ++ (octB y.size ++ (y ++ ((octB ((b.size : Int) / 256) ++ octB (b.size : Int)) ++ (b ++ ⟨#[]⟩)))))))) := by
    rw [leafText, hk, if_pos rfl, leafT, show ∀ X : ByteArray, X ++ (⟨#[]⟩ : ByteArray) = X from fun X => ByteArray.append_empty]
    simp only [ByteArray.append_assoc, Int.toNat_natCast]
  generalize leafText ⟨t, (k : Int), (n : Int), y, b⟩ = T at *
  rw [e] at R0
  obtain ⟨p0, R1⟩ := R0.take (n := 1) rfl
  rw [← e] at p0 R1
  obtain ⟨p1, R2⟩ := R1.short (n := 1) rfl (beNum_oct _ (by omega))
  obtain ⟨p2, R3⟩ := R2.take (n := 2) (two_size _ _)
  obtain ⟨p3, R4⟩ := R3.take (n := 4) rfl
  obtain ⟨p4, R5⟩ := R4.short (n := 1) rfl (beNum_oct _ (by omega))
  obtain ⟨p5, R6⟩ := R5.short (n := 2) (two_size _ _) (beNum_oct2 _ (by omega))
  have hD : rlD T = ⟨t, (k : Int), (n : Int), y, b⟩ := by
    show (⟨rdShort T (rl1 T) 1, (beNum (rdTake T (rl2 T) 2) : Int), (beNum (rdTake T (rl3 T) 4) : Int), rdShort T (rl4 T) 1, rdShort T (rl5 T) 2⟩ : EntryD) = _
    rw [show rdShort T (rl1 T) 1 = t from p1, show rdTake T (rl2 T) 2 = _ from p2, show rdTake T (rl3 T) 4 = _ from p3, show rdShort T (rl4 T) 1 = y from p4, show rdShort T (rl5 T) 2 = b from p5, beNum_oct2 _ (by omega), beNum_four _ (by omega)]
  refine ⟨?_, hD⟩
  rw [rlImpl, hD, hk, rlKind, show rdTake T rl0 1 = _ from p0, show rdDone T (rl6 T) = true from R6.done, kind_of]
  simp
end Go.Proofs.Ytichegndafnjeaa
