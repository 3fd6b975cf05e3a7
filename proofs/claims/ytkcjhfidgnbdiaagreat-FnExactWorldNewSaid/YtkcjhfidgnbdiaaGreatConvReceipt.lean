/-
  A frame by the reference's test and by the program's: plain laws. No condition.
  Receipts: walks. No condition.
  The laws' own copying and comparing functions at Receipt: walks. Written by program (gen_conv.py). No condition.
-/
import Derived.Test.YtkcjhfidgnbdiaaGreatMarkBase
import Derived.Test.YtkcjhfidgnbdiaaGreatWords
import Derived.Test.YtkcjhfidgnbdiaaGreatNamesOk
import Derived.StillTailTactics
namespace Go.Proofs.YtkcjhfidgnbdiaaGreat
set_option linter.unusedSimpArgs false
open Go.RowKit
set_option linter.unusedVariables false

theorem fa_bad {T : ByteArray} {p : Nat} (h : faOk T p = true) : p + 6 + faN T p ≤ T.size := by
  obtain ⟨h1, h2, _⟩ := faOk_pos h
  omega
theorem fa_some {T : ByteArray} {p : Nat} (h : p + 6 ≤ T.size) : fa1 T p = ⟨p + 2, false⟩ ∧ fa2 T p = ⟨p + 6, false⟩ ∧ rdTake T (fa0 p) 2 = T.extract p (p + 2) ∧ faSum T p = T.extract (p + 2) (p + 6) := by
  have f0 : rdFails T (fa0 p) 2 = false := by
    show (false || decide ((T.size : Int) - (p : Int) < ((2 : Nat) : Int))) = false
    rw [Bool.false_or, decide_eq_false_iff_not]; omega
  have e1 : fa1 T p = ⟨p + 2, false⟩ := by simp [fa1, rdNext, f0]; rfl
  have f1 : rdFails T ⟨p + 2, false⟩ 4 = false := by simp [rdFails]; omega
  refine ⟨e1, ?_, by simp [rdTake, f0]; rfl, ?_⟩
  · rw [fa2, e1]; simp [rdNext, f1]
  · rw [faSum, e1]; simp [rdTake, f1]
theorem fa_all {T : ByteArray} {p : Nat} (h : p + 6 + faN T p ≤ T.size) : (fa3 T p).bad = false ∧ faText T p = T.extract (p + 6) (p + 6 + faN T p) := by
  obtain ⟨e1, e2, e3, e4⟩ := fa_some (T := T) (p := p) (by omega)
  have f2 : rdFails T ⟨p + 6, false⟩ (faN T p) = false := by simp [rdFails]; omega
  refine ⟨?_, ?_⟩
  · rw [fa3, e2]; simp [rdNext, f2]
  · rw [faText, e2]; simp [rdTake, f2]
theorem beNum_two (b : ByteArray) (h : b.size = 2) : beNum b = 256 * (b[0]'(by omega)).toNat + (b[1]'(by omega)).toNat := by
  obtain ⟨⟨l⟩⟩ := b
  match l, h with
  | [c, d], _ => simp [beNum]; rfl
theorem faN_two {T : ByteArray} {p : Nat} (h : p + 6 ≤ T.size) : faN T p = 256 * (T[p]'(by omega)).toNat + (T[p + 1]'(by omega)).toNat := by
  have hs : (T.extract p (p + 2)).size = 2 := by rw [ByteArray.size_extract]; omega
  rw [faN, (fa_some h).2.2.1, beNum_two _ hs, ByteArray.getElem_extract, ByteArray.getElem_extract]
  rfl
theorem fa_test {T : ByteArray} {p : Nat} (h : p + 6 + faN T p ≤ T.size) : faOk T p = (inR (faN T p) 1 1000 && ((frameOut (faText T p)).toList == (T.extract p (p + 6 + faN T p)).toList)) := by
  obtain ⟨e1, e2, e3, e4⟩ := fa_some (T := T) (p := p) (by omega)
  obtain ⟨b1, b2⟩ := fa_all h
  have hs : (faText T p).size = faN T p := by rw [b2, ByteArray.size_extract]; omega
  simp only [faOk, b1, Bool.not_false, Bool.true_and]
  cases hin : inR (faN T p) 1 1000
  · rfl
  · simp only [Bool.true_and]
    rw [bytes_beq, bytes_beq, frameOut, hs, hin, if_pos rfl]
    have hd : (digest 4 4 (faText T p)).size = 4 := dig4_size (by rw [hs]; exact hin)
    have h2 : lowB (faText T p).size 2 = T.extract p (p + 2) := by
      rw [lowB_two, hs]
      have := two_of (rdTake T (fa0 p) 2) (by rw [e3, ByteArray.size_extract]; omega)
      rw [← e3]; exact this
    have h3 : T.extract p (p + 6 + faN T p) = T.extract p (p + 2) ++ (faSum T p) ++ faText T p := by
      rw [e4, b2, ← ByteArray.extract_eq_extract_append_extract (p + 2) (by omega) (by omega), ← ByteArray.extract_eq_extract_append_extract (p + 6) (by omega) (by omega)]
    rw [frameB, h2, h3, decide_eq_decide]
    have hsum : (faSum T p).size = 4 := by rw [e4, ByteArray.size_extract]; omega
    constructor
    · intro he; rw [he]
    · intro he
      have h5 := ByteArray.append_inj_left he (by simp [ByteArray.size_append, hd, hsum])
      have h6 := congrArg (fun x : ByteArray => x.data.toList) h5
      simp only [ByteArray.data_append, Array.toList_append, List.append_cancel_left_eq] at h6
      exact ByteArray.ext (Array.toList_inj.1 h6)
end Go.Proofs.YtkcjhfidgnbdiaaGreat
namespace Go.Proofs.YtkcjhfidgnbdiaaGreat
set_option linter.unusedSimpArgs false
open Go.RowKit
set_option linter.unusedVariables false

theorem isIndex_any (n : Int) (w : World) : Calls Tryz.prog 267 #[.int .i64 n] w fun e w' => e = .returned (.bool (inR n 0 511)) ∧ w = w' := by
  go_enter Tryz.func267, Tryz.ntmps267
  go_wp2_with fail
  refine (inRange_any _ _ _ _).mono ?_
  rintro e w1 ⟨rfl, rfl⟩
  go_wp2_with fail
  go_ret
  exact ⟨rfl, rfl⟩
def receiptOk (d : ReceiptD) : Bool := nameOk d.reader && nameOk d.topic && inR d.index 0 511
def receiptT (d : ReceiptD) : ByteArray := ⟨#[82]⟩ ++ (octB d.reader.size ++ d.reader) ++ (octB d.topic.size ++ d.topic) ++ (octB (d.index / 256) ++ octB d.index)
def receiptText (d : ReceiptD) : ByteArray := if receiptOk d then receiptT d else ⟨#[]⟩
theorem nameOk_size {s : ByteArray} (h : nameOk s = true) : s.size ≤ 20 := by
  simp only [nameOk, Bool.and_eq_true] at h
  have := (inR_true h.1).2
  omega
theorem ReceiptOk_any (d : ReceiptD) (w : World) (hd : d.Ok) : Calls Tryz.prog 209 #[.agg #[.string d.reader, .string d.topic, .int .i64 d.index]] w fun e w' => e = .returned (.bool (receiptOk d)) ∧ Ext w w' := by
  obtain ⟨k0, k1, _⟩ := hd
  cases b1 : nameOk d.reader <;> cases b2 : nameOk d.topic
  all_goals
    go_enter Tryz.func209, Tryz.ntmps209
    go_wp2_with (first | (go_at_call_of 177 (Value.string d.reader); refine (NameOk_any _ _ k0).mono ?_; rintro e w' ⟨rfl, rfl⟩) | (go_at_call_of 177 (Value.string d.topic); refine (NameOk_any _ _ k1).mono ?_; rintro e w' ⟨rfl, rfl⟩) | (go_at_call 267; refine (isIndex_any _ _).mono ?_; rintro e w' ⟨rfl, rfl⟩))
    go_ret
    exact ⟨by simp [receiptOk, b1, b2], by go_grown⟩
theorem specReceiptOk_any (d : ReceiptD) (w : World) (hd : d.Ok) : Calls Tryz.prog 197 #[.agg #[.string d.reader, .string d.topic, .int .i64 d.index]] w fun e w' => e = .returned (.bool (receiptOk d)) ∧ Ext w w' := by
  obtain ⟨k0, k1, _⟩ := hd
  cases b1 : nameOk d.reader <;> cases b2 : nameOk d.topic
  all_goals
    go_enter Tryz.func197, Tryz.ntmps197
    go_wp2_with (first | (go_at_call_of 175 (Value.string d.reader); refine (specNameOk_any _ _ k0).mono ?_; rintro e w' ⟨rfl, rfl⟩) | (go_at_call_of 175 (Value.string d.topic); refine (specNameOk_any _ _ k1).mono ?_; rintro e w' ⟨rfl, rfl⟩) | (go_at_call 174; refine (l01In_any _ _ _ _).mono ?_; rintro e w' ⟨rfl, rfl⟩))
    go_ret
    exact ⟨by simp [receiptOk, b1, b2], by go_grown⟩
set_option maxHeartbeats 2000000 in
set_option maxRecDepth 100000 in
theorem ReceiptText_any (d : ReceiptD) (w : World) (hd : d.Ok) : Calls Tryz.prog 223 #[.agg #[.string d.reader, .string d.topic, .int .i64 d.index]] w fun e w' => e = .returned (.tuple #[.string (receiptText d), .bool (receiptOk d)]) ∧ Ext w w' := by
  cases b : receiptOk d
  · have Ht := Lib.hid (show receiptText d = ⟨#[]⟩ by simp [receiptText, b])
    go_enter Tryz.func223, Tryz.ntmps223
    go_wp2_with fail
    have he := Ext.new (Below.refl w.heap.size w) (.cells #[.string d.reader, .string d.topic, .int .i64 d.index] 97)
    refine (ReceiptOk_any d _ hd).mono ?_
    rintro e w1 ⟨rfl, h1⟩
    replace he := he.next h1
    go_wp2_with fail
    go_ret2
    exact ⟨by rw [Ht.out]; rfl, he⟩
  · have Ht := Lib.hid (show receiptText d = receiptT d by simp [receiptText, b])
    have hb := b
    simp only [receiptOk, Bool.and_eq_true] at hb
    have z1 := nameOk_size hb.1.1
    have z2 := nameOk_size hb.1.2
    have z3 := inR_true hb.2
    obtain ⟨z3, z4⟩ := z3
    clear hb
    have y1 : (octB (d.reader.size : Int)).size ≤ 1 := Nat.le_refl _
    have y2 : (octB (d.topic.size : Int)).size ≤ 1 := Nat.le_refl _
    have y3 : (octB (d.index / 256)).size ≤ 1 := Nat.le_refl _
    have y4 : (octB d.index).size ≤ 1 := Nat.le_refl _
    have n1 : ¬ 9223372036854775807 < 1 + ((octB (d.reader.size : Int)).size + d.reader.size) := by omega
    have n2 : ¬ 9223372036854775807 < 1 + ((octB (d.reader.size : Int)).size + d.reader.size) + ((octB (d.topic.size : Int)).size + d.topic.size) := by omega
    have n3 : ¬ 9223372036854775807 < 1 + ((octB (d.reader.size : Int)).size + d.reader.size) + ((octB (d.topic.size : Int)).size + d.topic.size) + ((octB (d.index / 256)).size + (octB d.index).size) := by omega
    go_enter Tryz.func223, Tryz.ntmps223
    go_wp2_with fail
    have hB := Blk.new w 97 #[.string d.reader, .string d.topic, .int .i64 d.index]
    have he := Ext.new (Below.refl w.heap.size w) (.cells #[.string d.reader, .string d.topic, .int .i64 d.index] 97)
    refine (ReceiptOk_any d _ hd).mono ?_
    rintro e w1 ⟨rfl, h1⟩
    replace he := he.next h1; replace hB := hB.ext h1; clear h1
    obtain ⟨g, hg⟩ : ∃ g, g = w.heap.size := ⟨_, rfl⟩
    rw [← hg] at hB
    rw [← hg]
    clear hg
    have c0 : w1.cell? ⟨g, 0, none⟩ = some (.string d.reader) := hB.cell 0
    have c1 : w1.cell? ⟨g, 1, none⟩ = some (.string d.topic) := hB.cell 1
    have c2 : w1.cell? ⟨g, 2, none⟩ = some (.int .i64 d.index) := hB.cell 2
    go_wp2_with fail
    go_region_held3 (fun w' => w'.cell? ⟨g, 0, none⟩ = some (.string d.reader) ∧ w'.cell? ⟨g, 1, none⟩ = some (.string d.topic) ∧ w'.cell? ⟨g, 2, none⟩ = some (.int .i64 d.index) ∧ Blk w' g 97 #[.string d.reader, .string d.topic, .int .i64 d.index] ∧ Ext w w')
      (first
        | exact ⟨c0, c1, c2, hB.drew, he.drew⟩
        | (go_split_ands; refine ⟨?_, ?_, ?_, ?_, ?_⟩ <;> assumption)
        | (go_split_ands; have hB' := Blk.ext (by assumption) h1; exact ⟨hB'.cell 0, hB'.cell 1, hB'.cell 2, hB', Ext.next (by assumption) h1⟩))
      (first
        | (go_at_call_of 274 (Value.string d.reader); refine (shortS_any _ _ (by omega)).mono ?_; rintro e w' ⟨rfl, h1⟩)
        | (go_at_call_of 274 (Value.string d.topic); refine (shortS_any _ _ (by omega)).mono ?_; rintro e w' ⟨rfl, h1⟩)
        | (go_at_call 61; refine (pair_any _ _ (by omega) (by omega)).mono ?_; rintro e w' ⟨rfl, h1⟩))
    all_goals
      go_wp2_with fail
      go_ret2
      refine ⟨by rw [Ht.out]; rfl, ?_⟩
      go_split_ands
      assumption
set_option maxHeartbeats 2000000 in
set_option maxRecDepth 100000 in
theorem specReceiptText_any (d : ReceiptD) (w : World) (hd : d.Ok) : Calls Tryz.prog 196 #[.agg #[.string d.reader, .string d.topic, .int .i64 d.index]] w fun e w' => e = .returned (.tuple #[.string (receiptText d), .bool (receiptOk d)]) ∧ Ext w w' := by
  cases b : receiptOk d
  · have Ht := Lib.hid (show receiptText d = ⟨#[]⟩ by simp [receiptText, b])
    go_enter Tryz.func196, Tryz.ntmps196
    go_wp2_with fail
    have he := Ext.new (Below.refl w.heap.size w) (.cells #[.string d.reader, .string d.topic, .int .i64 d.index] 97)
    refine (specReceiptOk_any d _ hd).mono ?_
    rintro e w1 ⟨rfl, h1⟩
    replace he := he.next h1
    go_wp2_with fail
    go_ret2
    exact ⟨by rw [Ht.out]; rfl, he⟩
  · have Ht : Hid (receiptText d = ⟨#[82]⟩ ++ (lowB d.reader.size 1 ++ d.reader) ++ (lowB d.topic.size 1 ++ d.topic) ++ lowB d.index.toNat 2) := by
      have h0 : 0 ≤ d.index := by simp only [receiptOk, Bool.and_eq_true] at b; exact (inR_true b.2).1
      rw [lowB_one, lowB_one, lowB_two, Int.toNat_of_nonneg h0]
      exact Lib.hid (by simp [receiptText, b, receiptT])
    have hb := b
    simp only [receiptOk, Bool.and_eq_true] at hb
    have z1 := nameOk_size hb.1.1
    have z2 := nameOk_size hb.1.2
    have z3 := inR_true hb.2
    obtain ⟨z3, z4⟩ := z3
    clear hb
    have y1 : (lowB d.reader.size 1).size ≤ 1 := by rw [lowB_size]; exact Nat.le_refl _
    have y2 : (lowB d.topic.size 1).size ≤ 1 := by rw [lowB_size]; exact Nat.le_refl _
    have y3 : (lowB d.index.toNat 2).size ≤ 2 := by rw [lowB_size]; exact Nat.le_refl _
    have n1 : ¬ 9223372036854775807 < 1 + ((lowB d.reader.size 1).size + d.reader.size) := by omega
    have n2 : ¬ 9223372036854775807 < 1 + ((lowB d.reader.size 1).size + d.reader.size) + ((lowB d.topic.size 1).size + d.topic.size) := by omega
    have n3 : ¬ 9223372036854775807 < 1 + ((lowB d.reader.size 1).size + d.reader.size) + ((lowB d.topic.size 1).size + d.topic.size) + (lowB d.index.toNat 2).size := by omega
    go_enter Tryz.func196, Tryz.ntmps196
    go_wp2_with fail
    have hB := Blk.new w 97 #[.string d.reader, .string d.topic, .int .i64 d.index]
    have he := Ext.new (Below.refl w.heap.size w) (.cells #[.string d.reader, .string d.topic, .int .i64 d.index] 97)
    refine (specReceiptOk_any d _ hd).mono ?_
    rintro e w1 ⟨rfl, h1⟩
    replace he := he.next h1; replace hB := hB.ext h1; clear h1
    obtain ⟨g, hg⟩ : ∃ g, g = w.heap.size := ⟨_, rfl⟩
    rw [← hg] at hB
    rw [← hg]
    clear hg
    have c0 : w1.cell? ⟨g, 0, none⟩ = some (.string d.reader) := hB.cell 0
    have c1 : w1.cell? ⟨g, 1, none⟩ = some (.string d.topic) := hB.cell 1
    have c2 : w1.cell? ⟨g, 2, none⟩ = some (.int .i64 d.index) := hB.cell 2
    go_wp2_with fail
    go_region_held3 (fun w' => w'.cell? ⟨g, 0, none⟩ = some (.string d.reader) ∧ w'.cell? ⟨g, 1, none⟩ = some (.string d.topic) ∧ w'.cell? ⟨g, 2, none⟩ = some (.int .i64 d.index) ∧ Blk w' g 97 #[.string d.reader, .string d.topic, .int .i64 d.index] ∧ Ext w w')
      (first
        | exact ⟨c0, c1, c2, hB.drew, he.drew⟩
        | (go_split_ands; refine ⟨?_, ?_, ?_, ?_, ?_⟩ <;> assumption)
        | (go_split_ands; have hB' := Blk.ext (by assumption) h1; exact ⟨hB'.cell 0, hB'.cell 1, hB'.cell 2, hB', Ext.next (by assumption) h1⟩))
      (first
        | (go_at_call_of 262 (Value.string d.reader); refine (l03Short_any _ _ (by omega)).mono ?_; rintro e w' ⟨rfl, h1⟩)
        | (go_at_call_of 262 (Value.string d.topic); refine (l03Short_any _ _ (by omega)).mono ?_; rintro e w' ⟨rfl, h1⟩)
        | (go_at_call 261; refine (l03NumberI_any _ 2 _ (by omega) (by omega) (by decide)).mono ?_; rintro e w' ⟨rfl, h1⟩))
    all_goals
      go_wp2_with fail
      go_ret2
      refine ⟨by rw [Ht.out]; rfl, ?_⟩
      go_split_ands
      assumption
end Go.Proofs.YtkcjhfidgnbdiaaGreat
namespace Go.Proofs.YtkcjhfidgnbdiaaGreat
set_option linter.unusedSimpArgs false
open Go.RowKit
set_option linter.unusedVariables false

def ReceiptD.lens (d : ReceiptD) : List Nat := [d.reader.size, d.topic.size]
theorem szReceipt_any (d : ReceiptD) (left : Int) (w : World) (hd : d.Ok) (h0 : 0 ≤ left) (h1 : left ≤ 1048576) :
    Calls Tryz.prog 48 #[.agg #[.string d.reader, .string d.topic, .int .i64 d.index], .int .i64 left] w fun e w' => e = .returned (.int .i64 (szL d.lens left)) ∧ Ext w w' := by
  obtain ⟨k0, k1, k2⟩ := hd
  unfold maxLen at *
  clear k2
  go_enter Tryz.func48, Tryz.ntmps48
  go_wp2
  all_goals
    go_ret
    exact ⟨ret_int (by simp only [szL, ReceiptD.lens]; (repeat' split) <;> omega), by go_grown⟩
theorem toReceipt_any (d : ReceiptD) (w : World) :
    Calls Tryz.prog 50 #[.agg #[.string d.reader, .string d.topic, .int .i64 d.index]] w fun e w' => e = .returned (.agg #[.string d.reader, .string d.topic, .int .i64 d.index]) ∧ Ext w w' := by
  go_enter Tryz.func50, Tryz.ntmps50
  go_wp2
  go_returns
  exact ⟨rfl, by go_grown⟩
theorem eqReceipt_same (d : ReceiptD) (w : World) :
    Calls Tryz.prog 168 #[.agg #[.string d.reader, .string d.topic, .int .i64 d.index], .agg #[.string d.reader, .string d.topic, .int .i64 d.index]] w fun e w' => e = .returned (.bool true) ∧ Ext w w' := by
  go_enter Tryz.func168, Tryz.ntmps168
  go_wp2
  go_ret
  exact ⟨rfl, by go_grown⟩
set_option maxHeartbeats 1000000 in
set_option maxRecDepth 100000 in
theorem szReceiptS_any (A : Option Addr) (c : Nat) (l : List ReceiptD) (left : Int) (w : World) (hr : ReadsL w w.heap.size ReceiptD.cells 3 A l) (hok : ∀ d ∈ l, d.Ok) (hl : l.length ≤ maxLen) (h0 : 0 ≤ left) (h1 : left ≤ 1048576) :
    Calls Tryz.prog 67 #[.slice A l.length c, .int .i64 left] w fun e w' => e = .returned (.int .i64 (szL (l.length :: l.flatMap ReceiptD.lens) left)) ∧ Ext w w' := by
  unfold maxLen at hl
  have Hok := Lib.hid hok; clear hok
  by_cases c0 : left - (l.length : Int) < 0
  · go_enter Tryz.func67, Tryz.ntmps67
    go_wp2
    go_ret
    exact ⟨ret_int (by simp only [szL]; rw [if_pos c0]), by go_grown⟩
  · obtain ⟨fin, hfin⟩ : ∃ fin, fin = szL (l.length :: l.flatMap ReceiptD.lens) left := ⟨_, rfl⟩
    have Hi : SzInv ReceiptD.lens l fin 0 (left - l.length) := by
      refine ⟨by omega, by omega, ?_⟩
      rw [hfin]; simp only [szL, List.drop_zero]; rw [if_neg c0]
    rw [← hfin]; clear hfin
    go_enter Tryz.func67, Tryz.ntmps67
    go_wp2
    go_loopw [1, 5] (fun r i wr => ∃ (k : Nat) (q : Int), k ≤ l.length ∧ i = .int .i64 k ∧ r = .int .i64 q ∧ 0 ≤ q ∧ q ≤ 1048576 ∧ SzInv ReceiptD.lens l fin k q ∧ Ext w wr) (fun _ i _ => l.length - (intOf i).toNat)
    case atStart => exact ⟨0, _, Nat.zero_le _, rfl, rfl, by omega, by omega, Hi, Below.refl _ _⟩
    case round =>
      obtain ⟨k, q, hk, rfl, rfl, q0, q1, hi, he⟩ := hrel
      by_cases hlt : k < l.length
      · obtain ⟨s1, s2⟩ := hi.step hlt
        obtain ⟨b, off, rfl, hb, hc⟩ := (hr.below he).at_ (k := k) hlt
        obtain ⟨d, hd⟩ : ∃ d, d = l[k] := ⟨_, rfl⟩
        have hdl : l[k]? = some d := by rw [hd]; exact List.getElem?_eq_getElem hlt
        have hdo : d.Ok := Hok.out d (List.mem_of_getElem? hdl)
        have c0 := hc 0 _ (flat_at _ 3 ReceiptD.cells_length l k 0 d hdl (by omega))
        have c1 := hc 1 _ (flat_at _ 3 ReceiptD.cells_length l k 1 d hdl (by omega))
        have c2 := hc 2 _ (flat_at _ 3 ReceiptD.cells_length l k 2 d hdl (by omega))
        rw [Nat.add_zero] at c0
        rw [← hd] at s1 s2
        clear hc hd hdl
        have S1 := Lib.hid s1; have S2 := Lib.hid s2; clear s1 s2
        go_wp2_with fail
        refine (szReceipt_any d q _ hdo q0 q1).mono ?_
        rintro e w1 ⟨rfl, h1⟩
        replace he := he.next h1; clear h1
        have hp := szL_pos d.lens q q0
        have hq := szL_le d.lens q
        by_cases hn : szL d.lens q < 0
        · have E1 := Lib.hid (S1.out hn)
          have e2 : szL d.lens q = -1 := by rcases hp with h | h <;> omega
          clear hp hq S1 S2 Hi hi
          go_wp2_with fail
          go_ret
          exact ⟨ret_int E1.out.symm, he⟩
        · have H2 := Lib.hid (S2.out (by omega))
          have n0 : 0 ≤ szL d.lens q := by omega
          have n1 : szL d.lens q ≤ 1048576 := by rcases hq with h | h <;> omega
          clear hp hq S1 S2 Hi hi
          go_wp2_with fail
          go_roundw
          case rel => exact ⟨k + 1, _, by omega, by go_num, rfl, n0, n1, H2.out, he⟩
          case measure => simp [intOf]; omega
      · have E1 := Lib.hid (hi.done (by omega))
        clear Hi hi
        go_wp2_with fail
        go_ret
        exact ⟨ret_int E1.out, he⟩
set_option maxHeartbeats 1000000 in
set_option maxRecDepth 100000 in
theorem toReceiptS_any (A : Option Addr) (c : Nat) (l : List ReceiptD) (w : World) (hr : ReadsL w w.heap.size ReceiptD.cells 3 A l) (hl : l.length ≤ 1048576) :
    Calls Tryz.prog 73 #[.slice A l.length c] w fun e w' => ∃ g, e = .returned (.slice (some ⟨g, 0, none⟩) l.length l.length) ∧ w.heap.size ≤ g ∧ Blk w' g 97 (l.flatMap ReceiptD.cells).toArray ∧ Ext w w' := by
  obtain ⟨Z, hZ, hmk⟩ := make_any (P := Tryz.prog) (t := 27) (e := 97) (size := 3) (bytes := 40) l.length Tryz.underlying27 (by kernel_rfl) (by omega) hl
  have HZ := Lib.hid hZ; clear hZ
  have Hs := Lib.hid (Filled.start (f := ReceiptD.cells) (size := 3) (t := 97) (l := l) w Z)
  have He := Lib.hid (Ext.new (Below.refl w.heap.size w) (.cells Z 97))
  go_enter Tryz.func73, Tryz.ntmps73
  go_wp2
  obtain ⟨g, hg⟩ : ∃ g, g = w.heap.size := ⟨_, rfl⟩
  rw [← hg]
  rw [← hg] at Hs
  have hg0 : w.heap.size ≤ g := by omega
  clear hg
  go_loopw [4] (fun i wr => ∃ (k : Nat), k ≤ l.length ∧ i = .int .i64 k ∧ Filled ReceiptD.cells 3 97 l g Z k wr ∧ Ext w wr) (fun i _ => l.length - (intOf i).toNat)
  case atStart => exact ⟨0, Nat.zero_le _, rfl, Hs.out, He.out⟩
  case round =>
    obtain ⟨k, hk, rfl, hi, he⟩ := hrel
    by_cases hlt : k < l.length
    · obtain ⟨b, off, rfl, hb, hc⟩ := (hr.below he).at_ (k := k) hlt
      obtain ⟨d, hd⟩ : ∃ d, d = l[k] := ⟨_, rfl⟩
      have hdl : l[k]? = some d := by rw [hd]; exact List.getElem?_eq_getElem hlt
      have c0 := hc 0 _ (flat_at _ 3 ReceiptD.cells_length l k 0 d hdl (by omega))
      have c1 := hc 1 _ (flat_at _ 3 ReceiptD.cells_length l k 1 d hdl (by omega))
      have c2 := hc 2 _ (flat_at _ 3 ReceiptD.cells_length l k 2 d hdl (by omega))
      rw [Nat.add_zero] at c0
      have Hd := Lib.hid hd
      clear hc hd hdl
      go_wp2_with fail
      refine (toReceipt_any d _).mono ?_
      rintro e w1 ⟨rfl, h1⟩
      replace he := he.next h1; replace hi := hi.ext h1; clear h1 c0 c1 c2
      have ht := hi.there ReceiptD.cells_length HZ.out hlt
      have Hn := Lib.hid (hi.step ReceiptD.cells_length HZ.out hlt)
      rw [← Hd.out] at Hn
      have hz := Blk.frozen hi
      obtain ⟨v0, z0⟩ := Option.isSome_iff_exists.1 (ht 0 (by omega)).1
      obtain ⟨v1, z1⟩ := Option.isSome_iff_exists.1 (ht 1 (by omega)).1
      obtain ⟨v2, z2⟩ := Option.isSome_iff_exists.1 (ht 2 (by omega)).1
      rw [Nat.add_zero] at z0
      clear ht
      go_wp2_with fail
      have He2 := Lib.hid (ext_setCells (g := g) (W := w) hg0 d.cells (k * 3) w1 he)
      go_roundw
      case rel => exact ⟨k + 1, by omega, by go_num, Hn.out, He2.out⟩
      case measure => simp [intOf]; omega
    · have Hf := Lib.hid (hi.done HZ.out (by omega))
      clear hi
      go_wp2_with fail
      go_ret
      exact ⟨g, rfl, hg0, Hf.out, he⟩
set_option maxHeartbeats 1000000 in
set_option maxRecDepth 100000 in
theorem eqReceiptS_same (A A' : Option Addr) (c c' : Nat) (l : List ReceiptD) (w : World) (hr : ReadsL w w.heap.size ReceiptD.cells 3 A l) (hr' : ReadsL w w.heap.size ReceiptD.cells 3 A' l) (hl : l.length ≤ 1048576) :
    Calls Tryz.prog 79 #[.slice A l.length c, .slice A' l.length c'] w fun e w' => e = .returned (.bool true) ∧ Ext w w' := by
  go_enter Tryz.func79, Tryz.ntmps79
  go_wp2
  go_loopw [5] (fun i wr => ∃ (k : Nat), k ≤ l.length ∧ i = .int .i64 k ∧ Ext w wr) (fun i _ => l.length - (intOf i).toNat)
  case atStart => exact ⟨0, Nat.zero_le _, rfl, Below.refl _ _⟩
  case round =>
    obtain ⟨k, hk, rfl, he⟩ := hrel
    by_cases hlt : k < l.length
    · obtain ⟨b, off, rfl, hb, hc⟩ := (hr.below he).at_ (k := k) hlt
      obtain ⟨b', off', rfl, hb', hc'⟩ := (hr'.below he).at_ (k := k) hlt
      obtain ⟨d, hd⟩ : ∃ d, d = l[k] := ⟨_, rfl⟩
      have hdl : l[k]? = some d := by rw [hd]; exact List.getElem?_eq_getElem hlt
      have c0 := hc 0 _ (flat_at _ 3 ReceiptD.cells_length l k 0 d hdl (by omega))
      have c1 := hc 1 _ (flat_at _ 3 ReceiptD.cells_length l k 1 d hdl (by omega))
      have c2 := hc 2 _ (flat_at _ 3 ReceiptD.cells_length l k 2 d hdl (by omega))
      have b0 := hc' 0 _ (flat_at _ 3 ReceiptD.cells_length l k 0 d hdl (by omega))
      have b1 := hc' 1 _ (flat_at _ 3 ReceiptD.cells_length l k 1 d hdl (by omega))
      have b2 := hc' 2 _ (flat_at _ 3 ReceiptD.cells_length l k 2 d hdl (by omega))
      rw [Nat.add_zero] at c0 b0
      clear hc hc' hd hdl
      go_wp2_with fail
      go_still_tail 8, (by kernel_rfl)
      change wpList _ _ _ _ _ wr.drew
      generalize hw : wr.drew = w2
      have he2 : Ext w w2 := by rw [← hw]; exact he.drew
      clear hw he
      go_wp2_with fail
      refine (eqReceipt_same d _).mono ?_
      rintro e w1 ⟨rfl, h1⟩
      replace he2 := he2.next h1; clear h1 c0 c1 c2 b0 b1 b2
      go_wp2_with fail
      go_roundw
      case rel => exact ⟨k + 1, by omega, by go_num, he2⟩
      case measure => simp [intOf]; omega
    · go_wp2_with fail
      go_ret
      exact ⟨rfl, he⟩
end Go.Proofs.YtkcjhfidgnbdiaaGreat
