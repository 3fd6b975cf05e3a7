/-
  SpecDigest; Eqs; HeadOps: No condition.
-/
import Derived.Test.YtgeengkdgdjcjaaGreatSpecTop
import Derived.Test.YtgeengkdgdjcjaaGreatWords
import Derived.Laws.StructEq
namespace Go.Proofs.YtgeengkdgdjcjaaGreat
set_option maxHeartbeats 1000000
set_option maxRecDepth 100000
set_option linter.unusedSimpArgs false
open Go.RowKit
set_option linter.unusedVariables false
theorem StartOf_no (tag : Int) (w : World) (h : inR tag 0 255 = false) :
 Calls Tryz.prog 169 #[.int .i64 tag] w fun e w' => e = .returned (.tuple #[.slice (some ⟨w.heap.size, 0, none⟩) 0 0, .bool false]) ∧ Ext w w' := by
 have He := hU (Ext.new (Below.refl w.heap.size w) (.cells #[] 212))
 go_enter Tryz.func169, Tryz.ntmps169
 go_wp2_with (go_at_call 116; refine (l01In_any _ _ _ _).mono ?_; rintro e w' ⟨rfl, rfl⟩)
 go_ret2
 exact ⟨rfl, He.out⟩
theorem PadOf_no (n : Int) (w : World) (h : inR n 0 4000 = false) :
 Calls Tryz.prog 170 #[.int .i64 n] w fun e w' => e = .returned (.tuple #[.string ⟨#[]⟩, .bool false]) ∧ Ext w w' := by
 go_enter Tryz.func170, Tryz.ntmps170
 go_wp2_with (go_at_call 116; refine (l01In_any _ _ _ _).mono ?_; rintro e w' ⟨rfl, rfl⟩)
 go_ret2
 exact ⟨rfl, Below.refl _ _⟩
def StartRes (W w : World) (v : Value) (tag : Int) : Prop := inR tag 0 255 = true → OwnW W w v (startW tag)
theorem StartOf_all (tag : Int) (w : World) : Calls Tryz.prog 169 #[.int .i64 tag] w fun e w' => ∃ v, e = .returned (.tuple #[v, .bool (inR tag 0 255)]) ∧ StartRes w w' v tag ∧ Ext w w' := by
 cases h : inR tag 0 255
 · refine (StartOf_no tag w h).mono ?_
   rintro e w' ⟨rfl, he⟩
   exact ⟨_, rfl, (fun h' => by rw [h] at h'; cases h'), he⟩
 · refine (StartOf_any tag w h).mono ?_
   rintro e w' ⟨v, rfl, ho, he⟩
   exact ⟨v, rfl, fun _ => ho, he⟩
def padS (n : Nat) : ByteArray := if n ≤ 4000 then padT n else ⟨#[]⟩
theorem PadOf_all (n : Nat) (w : World) : Calls Tryz.prog 170 #[.int .i64 (n : Int)] w fun e w' => e = .returned (.tuple #[.string (padS n), .bool (decide (n ≤ 4000))]) ∧ Ext w w' := by
 by_cases h : n ≤ 4000
 · refine (PadOf_any n w h).mono ?_
   rintro e w' ⟨rfl, he⟩
   exact ⟨by rw [padS, if_pos h, decide_eq_true h], he⟩
 · refine (PadOf_no n w (by simp [inR]; omega)).mono ?_
   rintro e w' ⟨rfl, he⟩
   exact ⟨by rw [padS, if_neg h, decide_eq_false h], he⟩
theorem specDigest_any (width tag : Int) (T : ByteArray) (w : World) (hT : T.size ≤ maxLen) :
 Calls Tryz.prog 105 #[.int .i64 width, .int .i64 tag, .string T] w fun e w' => e = .returned (.tuple #[.string (digest width tag T), .bool (digestOk width tag T)]) ∧ Ext w w' := by
 unfold maxLen at hT
 cases hok : digestOk width tag T
 · have Ho := hU hok
   rw [digest_no hok]
   have h3 : ∃ b1 b2 b3, b1 = inR width 1 32 ∧ b2 = inR tag 0 255 ∧ b3 = decide (T.size ≤ 4000) ∧ (b1 && b2 && b3) = false := ⟨_, _, _, rfl, rfl, rfl, hok⟩
   obtain ⟨b1, b2, b3, e1, e2, e3, hb⟩ := h3
   clear hok
   cases b1 <;> cases b2 <;> cases b3
   all_goals first | (exfalso; simp at hb; done) | skip
   all_goals
    have hw := e1.symm
    have E2 := hU e2
    have E3 := hU e3
    clear e1 e2 e3 hb
    go_enter Tryz.func105, Tryz.ntmps105
    go_wp2_with fail
    refine (StartOf_all tag _).mono ?_
    rintro e w1 ⟨v, rfl, _, he⟩
    rw [← E2.out]
    go_wp2_with fail
    refine (PadOf_all _ _).mono ?_
    rintro e w2 ⟨rfl, h1⟩
    replace he := he.next h1; clear h1
    rw [← E3.out]
    go_wp2_with (go_at_call 103; refine (l02Width_any _ _).mono ?_; rintro e w' ⟨rfl, rfl⟩)
    go_ret2
    exact ⟨rfl, he⟩
 · have hok' := hok
   simp only [digestOk, Bool.and_eq_true, decide_eq_true_eq] at hok'
   obtain ⟨⟨b1, b2⟩, b3⟩ := hok'
   obtain ⟨lw0, lw1⟩ := inR_true b1
   rw [digest_yes hok]
   have Hf := hU (show digestT width.toNat tag T = (textW (mixT (T ++ padT T.size) (startW tag) ((T.size + (padT T.size).size) / 64))).extract 0 width.toNat by rw [digestT, ByteArray.size_append])
   have hps : (padT T.size).size ≤ 73 := by rw [padT_size]; unfold padZ; omega
   clear hok
   obtain ⟨fin, hfin⟩ : ∃ fin, fin = digestT width.toNat tag T := ⟨_, rfl⟩
   rw [← hfin]
   rw [← hfin] at Hf
   clear hfin
   go_enter Tryz.func105, Tryz.ntmps105
   go_wp2_with fail
   refine (StartOf_any tag _ b2).mono ?_
   rintro e w1 ⟨v, rfl, ho, he⟩
   have KS := hU (State8.of_own ho (startW_len tag))
   clear ho
   go_wp2_with fail
   refine (PadOf_any T.size _ b3).mono ?_
   rintro e w2 ⟨rfl, h1⟩
   replace he := he.next h1
   have KS2 : Hid (State8 w2 v (startW tag)) := by
    obtain ⟨A, c, hv, hr⟩ := KS.out
    exact hU ⟨A, c, hv, hr.ext h1⟩
   clear h1 KS
   go_wp2_with (go_at_call 103; refine (l02Width_any _ _).mono ?_; rintro e w' ⟨rfl, rfl⟩)
   refine (l02Mixed_any v (startW tag) (T ++ padT T.size) _ (startW_len tag) (startW_32 tag) KS2.out (by rw [ByteArray.size_append]; omega)).mono ?_
   rintro e w3 ⟨v', rfl, hs, h1⟩
   replace he := he.next h1
   obtain ⟨A, c, rfl, hr⟩ := hs
   rw [ByteArray.size_append] at hr
   have KR := hU hr
   clear h1 hr KS2
   go_wp2_with fail
   refine (l02First_any width A c _ _ KR.out (by rw [mixT_len, startW_len]) (mixT_32 _ (startW_32 tag) _) lw0 lw1).mono ?_
   rintro e w4 ⟨rfl, h1⟩
   replace he := he.next h1; clear h1
   rw [← Hf.out]
   go_wp2_with fail
   go_ret2
   exact ⟨rfl, he⟩
theorem bytes_ext {a b : ByteArray} (h : a.toList = b.toList) : a = b := by
 rw [ByteArray.toList_eq, ByteArray.toList_eq] at h
 obtain ⟨⟨x⟩⟩ := a
 obtain ⟨⟨y⟩⟩ := b
 have h : x = y := h
 rw [h]
theorem bytes_eq_iff {a b : ByteArray} : a.toList = b.toList ↔ a = b := ⟨bytes_ext, fun h => by rw [h]⟩
def EntryD.eqb (d e : EntryD) : Bool := (d.topic.toList == e.topic.toList) && (d.index == e.index) && (d.time == e.time) && (d.key.toList == e.key.toList) && (d.body.toList == e.body.toList)
theorem EntryD.eqb_iff (d e : EntryD) : d.eqb e = true ↔ d = e := by
 obtain ⟨a0, a1, a2, a3, a4⟩ := d
 obtain ⟨b0, b1, b2, b3, b4⟩ := e
 simp only [EntryD.eqb, Bool.and_eq_true, beq_iff_eq, bytes_eq_iff, EntryD.mk.injEq, and_assoc]
theorem EntryD.eqb_self (d : EntryD) : d.eqb d = true := (EntryD.eqb_iff d d).2 rfl
theorem EntryD.run_eql (d e : EntryD) (w : World) : (binOp .eql 56 (.agg #[.string d.topic, .int .i64 d.index, .int .i64 d.time, .string d.key, .string d.body]) (.agg #[.string e.topic, .int .i64 e.index, .int .i64 e.time, .string e.key, .string e.body])).run Tryz.prog w = .ok (.bool (d.eqb e)) w := by
 go_simp
 unfold EntryD.eqb
 (repeat' split) <;> simp [*]
theorem EntryD.run_neq (d e : EntryD) (w : World) : (binOp .neq 56 (.agg #[.string d.topic, .int .i64 d.index, .int .i64 d.time, .string d.key, .string d.body]) (.agg #[.string e.topic, .int .i64 e.index, .int .i64 e.time, .string e.key, .string e.body])).run Tryz.prog w = .ok (.bool (!(d.eqb e))) w := by
 go_simp
 unfold EntryD.eqb
 (repeat' split) <;> simp [*]
def ReceiptD.eqb (d e : ReceiptD) : Bool := (d.reader.toList == e.reader.toList) && (d.topic.toList == e.topic.toList) && (d.index == e.index)
theorem ReceiptD.eqb_iff (d e : ReceiptD) : d.eqb e = true ↔ d = e := by
 obtain ⟨a0, a1, a2⟩ := d
 obtain ⟨b0, b1, b2⟩ := e
 simp only [ReceiptD.eqb, Bool.and_eq_true, beq_iff_eq, bytes_eq_iff, ReceiptD.mk.injEq, and_assoc]
theorem ReceiptD.eqb_self (d : ReceiptD) : d.eqb d = true := (ReceiptD.eqb_iff d d).2 rfl
theorem ReceiptD.run_eql (d e : ReceiptD) (w : World) : (binOp .eql 58 (.agg #[.string d.reader, .string d.topic, .int .i64 d.index]) (.agg #[.string e.reader, .string e.topic, .int .i64 e.index])).run Tryz.prog w = .ok (.bool (d.eqb e)) w := by
 go_simp
 unfold ReceiptD.eqb
 (repeat' split) <;> simp [*]
theorem ReceiptD.run_neq (d e : ReceiptD) (w : World) : (binOp .neq 58 (.agg #[.string d.reader, .string d.topic, .int .i64 d.index]) (.agg #[.string e.reader, .string e.topic, .int .i64 e.index])).run Tryz.prog w = .ok (.bool (!(d.eqb e))) w := by
 go_simp
 unfold ReceiptD.eqb
 (repeat' split) <;> simp [*]
def HeadD.eqb (d e : HeadD) : Bool := (d.number == e.number) && (d.size == e.size) && (d.root.toList == e.root.toList) && (d.taken == e.taken) && (d.takenRoot.toList == e.takenRoot.toList)
theorem HeadD.eqb_iff (d e : HeadD) : d.eqb e = true ↔ d = e := by
 obtain ⟨a0, a1, a2, a3, a4⟩ := d
 obtain ⟨b0, b1, b2, b3, b4⟩ := e
 simp only [HeadD.eqb, Bool.and_eq_true, beq_iff_eq, bytes_eq_iff, HeadD.mk.injEq, and_assoc]
theorem HeadD.eqb_self (d : HeadD) : d.eqb d = true := (HeadD.eqb_iff d d).2 rfl
theorem HeadD.run_eql (d e : HeadD) (w : World) : (binOp .eql 33 (.agg #[.int .i64 d.number, .int .i64 d.size, .string d.root, .int .i64 d.taken, .string d.takenRoot]) (.agg #[.int .i64 e.number, .int .i64 e.size, .string e.root, .int .i64 e.taken, .string e.takenRoot])).run Tryz.prog w = .ok (.bool (d.eqb e)) w := by
 go_simp
 unfold HeadD.eqb
 (repeat' split) <;> simp [*]
theorem HeadD.run_neq (d e : HeadD) (w : World) : (binOp .neq 33 (.agg #[.int .i64 d.number, .int .i64 d.size, .string d.root, .int .i64 d.taken, .string d.takenRoot]) (.agg #[.int .i64 e.number, .int .i64 e.size, .string e.root, .int .i64 e.taken, .string e.takenRoot])).run Tryz.prog w = .ok (.bool (!(d.eqb e))) w := by
 go_simp
 unfold HeadD.eqb
 (repeat' split) <;> simp [*]
def CursorD.eqb (d e : CursorD) : Bool := (d.topic.toList == e.topic.toList) && (d.next == e.next) && (d.last == e.last)
theorem CursorD.eqb_iff (d e : CursorD) : d.eqb e = true ↔ d = e := by
 obtain ⟨a0, a1, a2⟩ := d
 obtain ⟨b0, b1, b2⟩ := e
 simp only [CursorD.eqb, Bool.and_eq_true, beq_iff_eq, bytes_eq_iff, CursorD.mk.injEq, and_assoc]
theorem CursorD.eqb_self (d : CursorD) : d.eqb d = true := (CursorD.eqb_iff d d).2 rfl
def PreD.eqb (d e : PreD) : Bool := (d.tag == e.tag) && (d.text.toList == e.text.toList)
theorem PreD.eqb_iff (d e : PreD) : d.eqb e = true ↔ d = e := by
 obtain ⟨a0, a1⟩ := d
 obtain ⟨b0, b1⟩ := e
 simp only [PreD.eqb, Bool.and_eq_true, beq_iff_eq, bytes_eq_iff, PreD.mk.injEq, and_assoc]
theorem PreD.eqb_self (d : PreD) : d.eqb d = true := (PreD.eqb_iff d d).2 rfl
theorem PreD.run_eql (d e : PreD) (w : World) : (binOp .eql 88 (.agg #[.int .i64 d.tag, .string d.text]) (.agg #[.int .i64 e.tag, .string e.text])).run Tryz.prog w = .ok (.bool (d.eqb e)) w := by
 go_simp
 unfold PreD.eqb
 (repeat' split) <;> simp [*]
theorem PreD.run_neq (d e : PreD) (w : World) : (binOp .neq 88 (.agg #[.int .i64 d.tag, .string d.text]) (.agg #[.int .i64 e.tag, .string e.text])).run Tryz.prog w = .ok (.bool (!(d.eqb e))) w := by
 go_simp
 unfold PreD.eqb
 (repeat' split) <;> simp [*]
set_option maxHeartbeats 2000000
def emptyR (n : Int) : ByteArray := digest n 5 ⟨#[]⟩
theorem emptyOk (n : Int) : digestOk n 5 ⟨#[]⟩ = inR n 1 32 := by
 have h1 : inR 5 0 255 = true := rfl
 have h2 : decide ((⟨#[]⟩ : ByteArray).size ≤ 4000) = true := rfl
 simp only [digestOk, h1, h2, Bool.and_true]
theorem specEmptyRoot_any (n : Int) (w : World) : Calls Tryz.prog 158 #[.int .i64 n] w fun e w' => e = .returned (.tuple #[.string (emptyR n), .bool (inR n 1 32)]) ∧ Ext w w' := by
 go_enter Tryz.func158, Tryz.ntmps158
 go_wp2_with fail
 refine (specDigest_any n 5 ⟨#[]⟩ _ (by decide)).mono ?_
 rintro e w1 ⟨rfl, h1⟩
 rw [emptyOk]
 go_wp2_with fail
 go_ret2
 exact ⟨rfl, h1⟩
theorem EmptyRoot_any (n : Int) (w : World) : Calls Tryz.prog 140 #[.int .i64 n] w fun e w' => e = .returned (.tuple #[.string (emptyR n), .bool (inR n 1 32)]) ∧ Ext w w' := by
 go_enter Tryz.func140, Tryz.ntmps140
 go_wp2_with fail
 refine (Digest_any n 5 ⟨#[]⟩ _ (by decide)).mono ?_
 rintro e w1 ⟨rfl, h1⟩
 rw [emptyOk]
 go_wp2_with fail
 go_ret2
 exact ⟨rfl, h1⟩
theorem emptyRoot_any (n : Int) (w : World) : Calls Tryz.prog 80 #[.int .i64 n] w fun e w' => e = .returned (.string (emptyR n)) ∧ Ext w w' := by
 go_enter Tryz.func80, Tryz.ntmps80
 go_wp2_with fail
 refine (EmptyRoot_any n _).mono ?_
 rintro e w1 ⟨rfl, h1⟩
 go_wp2_with fail
 go_ret
 exact ⟨rfl, h1⟩
theorem isSize_any (n : Int) (w : World) : Calls Tryz.prog 215 #[.int .i64 n] w fun e w' => e = .returned (.bool (inR n 0 512)) ∧ w = w' := by
 go_enter Tryz.func215, Tryz.ntmps215
 go_wp2_with (go_at_call 117; refine (inRange_any _ _ _ _).mono ?_; rintro e w' ⟨rfl, rfl⟩)
 go_ret
 exact ⟨rfl, rfl⟩
theorem l04Size_any (n : Int) (w : World) : Calls Tryz.prog 159 #[.int .i64 n] w fun e w' => e = .returned (.bool (inR n 0 512)) ∧ w = w' := by
 go_enter Tryz.func159, Tryz.ntmps159
 go_wp2_with (go_at_call 116; refine (l01In_any _ _ _ _).mono ?_; rintro e w' ⟨rfl, rfl⟩)
 go_ret
 exact ⟨rfl, rfl⟩
def rootB (n s : Int) (r : ByteArray) : Bool := inR s 0 512 && ((r.size : Int) == n) && (decide (0 < s) || (r.toList == (emptyR n).toList))
def headOk (n : Int) (h : HeadD) : Bool := inR n 1 32 && inR h.number 0 399 && rootB n h.size h.root && rootB n h.taken h.takenRoot
theorem rootOk_any (n s : Int) (r : ByteArray) (w : World) : Calls Tryz.prog 141 #[.int .i64 n, .int .i64 s, .string r] w fun e w' => e = .returned (.bool (rootB n s r)) ∧ Ext w w' := by
 cases b1 : inR s 0 512
 · have E := hU (show rootB n s r = false by simp [rootB, b1])
   go_enter Tryz.func141, Tryz.ntmps141
   go_wp2_with (go_at_call 215; refine (isSize_any _ _).mono ?_; rintro e w' ⟨rfl, rfl⟩)
   go_ret
   exact ⟨ret_bool E.out.symm, Below.refl _ _⟩
 cases b2 : ((r.size : Int) == n)
 · have E := hU (show rootB n s r = false by simp [rootB, b2])
   have b2' : ((r.size : Int) != n) = true := by rw [bne, b2]; rfl
   go_enter Tryz.func141, Tryz.ntmps141
   go_wp2_with (go_at_call 215; refine (isSize_any _ _).mono ?_; rintro e w' ⟨rfl, rfl⟩)
   go_ret
   exact ⟨ret_bool E.out.symm, Below.refl _ _⟩
 have b2' : ((r.size : Int) != n) = false := by rw [bne, b2]; rfl
 by_cases b3 : 0 < s
 · have E := hU (show rootB n s r = true by simp [rootB, b1, b2, b3])
   have b3' : decide (0 < s) = true := decide_eq_true b3
   go_enter Tryz.func141, Tryz.ntmps141
   go_wp2_with (go_at_call 215; refine (isSize_any _ _).mono ?_; rintro e w' ⟨rfl, rfl⟩)
   go_ret
   exact ⟨ret_bool E.out.symm, Below.refl _ _⟩
 have b3' : decide (0 < s) = false := decide_eq_false b3
 have E := hU (show rootB n s r = (r.toList == (emptyR n).toList) by simp only [rootB, b1, b2, b3', Bool.true_and, Bool.false_or])
 go_enter Tryz.func141, Tryz.ntmps141
 go_wp2_with (first | (go_at_call 215; refine (isSize_any _ _).mono ?_; rintro e w' ⟨rfl, rfl⟩))
 refine (emptyRoot_any n _).mono ?_
 rintro e w1 ⟨rfl, h1⟩
 go_wp2_with fail
 go_ret
 exact ⟨ret_bool E.out.symm, h1⟩
theorem implHeadOk_any (n : Int) (h : HeadD) (w : World) : Calls Tryz.prog 81 #[.int .i64 n, .agg #[.int .i64 h.number, .int .i64 h.size, .string h.root, .int .i64 h.taken, .string h.takenRoot]] w fun e w' => e = .returned (.bool (headOk n h)) ∧ Ext w w' := by
 have K0 := Blk.new w 33 #[.int .i64 h.number, .int .i64 h.size, .string h.root, .int .i64 h.taken, .string h.takenRoot]
 have he := Ext.new (Below.refl w.heap.size w) (.cells #[.int .i64 h.number, .int .i64 h.size, .string h.root, .int .i64 h.taken, .string h.takenRoot] 33)
 obtain ⟨r0, m0⟩ := K0.rules
 cases b1 : inR n 1 32
 · have E := hU (show headOk n h = false by simp [headOk, b1])
   go_enter Tryz.func81, Tryz.ntmps81
   go_wp2_with (first | (go_at_call 53; refine (isWidth_any _ _).mono ?_; rintro e w' ⟨rfl, rfl⟩) | (go_at_call 117; refine (inRange_any _ _ _ _).mono ?_; rintro e w' ⟨rfl, rfl⟩))
   go_ret
   exact ⟨ret_bool E.out.symm, he⟩
 cases b2 : inR h.number 0 399
 · have E := hU (show headOk n h = false by simp [headOk, b2])
   go_enter Tryz.func81, Tryz.ntmps81
   go_wp2_with (first | (go_at_call 53; refine (isWidth_any _ _).mono ?_; rintro e w' ⟨rfl, rfl⟩) | (go_at_call 117; refine (inRange_any _ _ _ _).mono ?_; rintro e w' ⟨rfl, rfl⟩))
   go_ret
   exact ⟨ret_bool E.out.symm, he⟩
 cases b3 : rootB n h.size h.root
 · have E := hU (show headOk n h = false by simp [headOk, b3])
   go_enter Tryz.func81, Tryz.ntmps81
   go_wp2_with (first | (go_at_call 53; refine (isWidth_any _ _).mono ?_; rintro e w' ⟨rfl, rfl⟩) | (go_at_call 117; refine (inRange_any _ _ _ _).mono ?_; rintro e w' ⟨rfl, rfl⟩))
   refine (rootOk_any n h.size h.root _).mono ?_
   rintro e w1 ⟨rfl, h1⟩
   replace he := he.next h1; replace K0 := K0.ext h1; clear r0 m0 h1
   obtain ⟨r0, m0⟩ := K0.rules
   go_wp2_with fail
   go_ret
   exact ⟨ret_bool E.out.symm, he⟩
 have E := hU (show headOk n h = rootB n h.taken h.takenRoot by simp only [headOk, b1, b2, b3, Bool.true_and])
 go_enter Tryz.func81, Tryz.ntmps81
 go_wp2_with (first | (go_at_call 53; refine (isWidth_any _ _).mono ?_; rintro e w' ⟨rfl, rfl⟩) | (go_at_call 117; refine (inRange_any _ _ _ _).mono ?_; rintro e w' ⟨rfl, rfl⟩))
 obtain ⟨g, hg⟩ : ∃ g, g = w.heap.size := ⟨_, rfl⟩
 rw [← hg] at K0
 rw [← hg]
 clear hg r0 m0
 refine (rootOk_any n h.size h.root _).mono ?_
 rintro e w1 ⟨rfl, h1⟩
 replace he := he.next h1; replace K0 := K0.ext h1; clear h1
 obtain ⟨r0, m0⟩ := K0.rules
 go_wp2_with fail
 refine (rootOk_any n h.taken h.takenRoot _).mono ?_
 rintro e w2 ⟨rfl, h1⟩
 replace he := he.next h1
 go_wp2_with fail
 go_ret
 exact ⟨ret_bool E.out.symm, he⟩
theorem six_cases (p1 p2 p3 p4 p5 p6 : Bool) : p1 = false ∨ (p1 = true ∧ p2 = false) ∨ (p1 = true ∧ p2 = true ∧ p3 = false) ∨ (p1 = true ∧ p2 = true ∧ p3 = true ∧ p4 = false) ∨ (p1 = true ∧ p2 = true ∧ p3 = true ∧ p4 = true ∧ p5 = false) ∨
 (p1 = true ∧ p2 = true ∧ p3 = true ∧ p4 = true ∧ p5 = true ∧ p6 = false) ∨ (p1 = true ∧ p2 = true ∧ p3 = true ∧ p4 = true ∧ p5 = true ∧ p6 = true) := by
 cases p1 <;> cases p2 <;> cases p3 <;> cases p4 <;> cases p5 <;> cases p6 <;> simp
theorem ne_of_beq {a b : Int} {p : Bool} (h : (a == b) = p) : (a != b) = !p := by rw [bne, h]
theorem specHeadOk_any (n : Int) (h : HeadD) (w : World) : Calls Tryz.prog 91 #[.int .i64 n, .agg #[.int .i64 h.number, .int .i64 h.size, .string h.root, .int .i64 h.taken, .string h.takenRoot]] w fun e w' => e = .returned (.bool (headOk n h)) ∧ Ext w w' := by
 have K0 := hU (Blk.new w 33 #[.int .i64 h.number, .int .i64 h.size, .string h.root, .int .i64 h.taken, .string h.takenRoot])
 have He := hU (Ext.new (Below.refl w.heap.size w) (.cells #[.int .i64 h.number, .int .i64 h.size, .string h.root, .int .i64 h.taken, .string h.takenRoot] 33))
 rcases six_cases (inR n 1 32) (inR h.number 0 399) (inR h.size 0 512) (inR h.taken 0 512) ((h.root.size : Int) == n) ((h.takenRoot.size : Int) == n) with b1 | ⟨b1, b2⟩ | ⟨b1, b2, b3⟩ | ⟨b1, b2, b3, b4⟩ | ⟨b1, b2, b3, b4, b5⟩ | ⟨b1, b2, b3, b4, b5, b6⟩ | ⟨b1, b2, b3, b4, b5, b6⟩
 case inr.inr.inr.inr.inr.inr =>
  have b5' := ne_of_beq b5
  have b6' := ne_of_beq b6
  rw [Bool.not_true] at b5' b6'
  obtain ⟨fin, hfin⟩ : ∃ fin, fin = headOk n h := ⟨_, rfl⟩
  have E : Hid (fin = ((decide (0 < h.size) || (h.root.toList == (emptyR n).toList)) && (decide (0 < h.taken) || (h.takenRoot.toList == (emptyR n).toList)))) := hU (by rw [hfin]; simp only [headOk, rootB, b1, b2, b3, b4, b5, b6, Bool.true_and])
  rw [← hfin]
  clear hfin b5 b6
  go_enter Tryz.func91, Tryz.ntmps91
  go_wp2_with fail
  obtain ⟨g, hg⟩ : ∃ g, g = w.heap.size := ⟨_, rfl⟩
  rw [← hg] at K0
  rw [← hg]
  clear hg
  refine (specEmptyRoot_any n _).mono ?_
  rintro e w1 ⟨rfl, h1⟩
  have K1 := K0.out.ext h1; have he := He.out.next h1; clear h1 K0 He
  obtain ⟨r0, m0⟩ := K1.rules
  cases q1 : decide (0 < h.size) <;> cases q2 : (h.root.toList == (emptyR n).toList) <;> cases q3 : decide (0 < h.taken) <;> cases q4 : (h.takenRoot.toList == (emptyR n).toList)
  all_goals
   have E2 := hU (show fin = _ by rw [E.out, q1, q2, q3, q4])
   clear E
   go_wp2_with (first | (go_at_call 116; refine (l01In_any _ _ _ _).mono ?_; rintro e w' ⟨rfl, rfl⟩) | (go_at_call 159; refine (l04Size_any _ _).mono ?_; rintro e w' ⟨rfl, rfl⟩))
   go_ret
   exact ⟨ret_bool E2.out.symm, he⟩
 all_goals
  have E := hU (show headOk n h = false by simp [headOk, rootB, *])
  try have b5' := ne_of_beq b5
  try have b6' := ne_of_beq b6
  try rw [Bool.not_true] at b5'
  try rw [Bool.not_false] at b5'
  try rw [Bool.not_false] at b6'
  go_enter Tryz.func91, Tryz.ntmps91
  go_wp2_with fail
  obtain ⟨g, hg⟩ : ∃ g, g = w.heap.size := ⟨_, rfl⟩
  rw [← hg] at K0
  rw [← hg]
  clear hg
  refine (specEmptyRoot_any n _).mono ?_
  rintro e w1 ⟨rfl, h1⟩
  have K1 := K0.out.ext h1; have he := He.out.next h1; clear h1 K0 He
  obtain ⟨r0, m0⟩ := K1.rules
  go_wp2_with (first | (go_at_call 116; refine (l01In_any _ _ _ _).mono ?_; rintro e w' ⟨rfl, rfl⟩) | (go_at_call 159; refine (l04Size_any _ _).mono ?_; rintro e w' ⟨rfl, rfl⟩))
  go_ret
  exact ⟨ret_bool E.out.symm, he⟩
end Go.Proofs.YtgeengkdgdjcjaaGreat
