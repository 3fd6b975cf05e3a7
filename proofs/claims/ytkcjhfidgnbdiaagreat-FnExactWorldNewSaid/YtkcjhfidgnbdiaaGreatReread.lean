/-
  Names: the program's side, a walk. No condition.
  '==' and '!=' on the program's flat structs. Written by program (gen_eqs.py). No condition.
  Texts that are read, and made again. No condition, no program.
-/
import Derived.Test.YtkcjhfidgnbdiaaGreatNamesOk
import Derived.Test.YtkcjhfidgnbdiaaGreatHashTop
import Derived.Laws.StructEq
import Derived.Test.YtkcjhfidgnbdiaaGreatWords
namespace Go.Proofs.YtkcjhfidgnbdiaaGreat
set_option linter.unusedSimpArgs false
open Go.RowKit
set_option linter.unusedVariables false

set_option maxHeartbeats 2000000 in
theorem implNamesOk_any (m : Int) (A : Option Addr) (c : Nat) (l : List ByteArray) (w : World) (hr : SlF AnyB sone 1 w A l c) (hok : ∀ s ∈ l, s.size ≤ maxLen) :
    Calls Tryz.prog 91 #[.int .i64 m, .slice A l.length c] w fun e w' => e = .returned (.bool (inR m 1 32 && namesB l)) ∧ w = w' := by
  have hm := hr.len
  have hle := hr.le
  unfold maxLen at hm
  obtain ⟨fin, hfin⟩ : ∃ fin, fin = (inR m 1 32 && namesB l) := ⟨_, rfl⟩
  rw [← hfin]
  cases q1 : inR m 1 32
  · have E := Lib.hid (show fin = false by rw [hfin, q1]; rfl)
    clear hfin
    go_enter Tryz.func91, Tryz.ntmps91
    go_wp2_with (go_at_call 59; refine (isWidth_any _ _).mono ?_; rintro e w' ⟨rfl, rfl⟩; rw [q1])
    go_ret
    exact ⟨ret_bool E.out.symm, rfl⟩
  cases q2 : inR (l.length : Int) 1 4
  · have E := Lib.hid (show fin = false by rw [hfin, q1, namesB, q2]; rfl)
    clear hfin
    go_enter Tryz.func91, Tryz.ntmps91
    go_wp2_with (first | (go_at_call 59; refine (isWidth_any _ _).mono ?_; rintro e w' ⟨rfl, rfl⟩; rw [q1]) | (go_at_call 140; refine (inRange_any _ _ _ _).mono ?_; rintro e w' ⟨rfl, rfl⟩; rw [q2]))
    go_ret
    exact ⟨ret_bool E.out.symm, rfl⟩
  have F := Lib.hid (show fin = namesTo l l.length by rw [hfin, q1, namesB, q2]; rfl)
  clear hfin
  go_enter Tryz.func91, Tryz.ntmps91
  go_wp2_with (first | (go_at_call 59; refine (isWidth_any _ _).mono ?_; rintro e w' ⟨rfl, rfl⟩; rw [q1]) | (go_at_call 140; refine (inRange_any _ _ _ _).mono ?_; rintro e w' ⟨rfl, rfl⟩; rw [q2]))
  go_loopw [18] (fun i wr => ∃ k : Nat, k ≤ l.length ∧ i = .int .i64 k ∧ namesTo l k = true ∧ wr = w) (fun i _ => l.length - (intOf i).toNat)
  case atStart => exact ⟨0, Nat.zero_le _, rfl, rfl, rfl⟩
  case round =>
    obtain ⟨k, hk, rfl, hi, rfl⟩ := hrel
    have Hi := Lib.hid hi
    clear hi
    by_cases hlt : k < l.length
    case neg =>
      have E := Lib.hid (show fin = true by rw [F.out, show l.length = k by omega]; exact Hi.out)
      go_wp2_with fail
      go_ret
      exact ⟨ret_bool E.out.symm, rfl⟩
    obtain ⟨b, off, rfl, hb, hc⟩ := Reads.at_ hr.reads (k := k) (by omega)
    obtain ⟨d, hd⟩ : ∃ d, d = l[k]'(by omega) := ⟨_, rfl⟩
    have hdl : l[k]? = some d := by rw [hd]; exact List.getElem?_eq_getElem (by omega)
    have hds := hok d (List.mem_of_getElem? hdl)
    have c0 := hc 0 _ (flat_at _ 1 sone_length l k 0 d hdl (by omega))
    rw [Nat.add_zero, Nat.mul_one] at c0
    have Hd := Lib.hid hd
    have HC := Lib.hid (contains_any _ k c l c d wr hr (by omega) (by omega))
    clear hc hdl hd hok hr
    cases p1 : nameOk d
    · have E := Lib.hid (show fin = false by rw [F.out]; exact namesTo_bad hlt (Or.inl (by rw [← Hd.out]; exact p1)))
      go_wp2_with fail
      refine (NameOk_any _ _ hds).mono ?_
      rintro e w1 ⟨rfl, rfl⟩
      rw [p1]
      go_wp2_with fail
      go_ret
      exact ⟨ret_bool E.out.symm, rfl⟩
    cases p2 : freshTo l d k
    · have E := Lib.hid (show fin = false by rw [F.out]; exact namesTo_bad hlt (Or.inr (by rw [← Hd.out]; exact p2)))
      go_wp2_with fail
      refine (NameOk_any _ _ hds).mono ?_
      rintro e w1 ⟨rfl, rfl⟩
      rw [p1]
      go_wp2_with fail
      refine HC.out.mono ?_
      rintro e w2 ⟨rfl, rfl⟩
      rw [p2]
      go_wp2_with fail
      go_ret
      exact ⟨ret_bool E.out.symm, rfl⟩
    · have E := Lib.hid (show namesTo l (k + 1) = true from namesTo_good hlt Hi.out (by rw [← Hd.out]; exact p1) (by rw [← Hd.out]; exact p2))
      go_wp2_with fail
      refine (NameOk_any _ _ hds).mono ?_
      rintro e w1 ⟨rfl, rfl⟩
      rw [p1]
      go_wp2_with fail
      refine HC.out.mono ?_
      rintro e w2 ⟨rfl, rfl⟩
      rw [p2]
      go_wp2_with fail
      go_roundw
      case rel => exact ⟨k + 1, by omega, by go_num, E.out, trivial⟩
      case measure => simp [intOf]; omega
set_option maxHeartbeats 2000000 in
theorem specNamesOk_any (A : Option Addr) (c : Nat) (l : List ByteArray) (w : World) (hr : SlF AnyB sone 1 w A l c) (hok : ∀ s ∈ l, s.size ≤ maxLen) :
    Calls Tryz.prog 88 #[.slice A l.length c] w fun e w' => e = .returned (.bool (namesB l)) ∧ Ext w w' := by
  have hm := hr.len
  have hle := hr.le
  unfold maxLen at hm
  obtain ⟨fin, hfin⟩ : ∃ fin, fin = namesB l := ⟨_, rfl⟩
  rw [← hfin]
  cases q2 : inR (l.length : Int) 1 4
  · have E := Lib.hid (show fin = false by rw [hfin, namesB, q2]; rfl)
    clear hfin
    go_enter Tryz.func88, Tryz.ntmps88
    go_wp2_with (go_at_call 174; refine (l01In_any _ _ _ _).mono ?_; rintro e w' ⟨rfl, rfl⟩; rw [q2])
    go_ret
    exact ⟨ret_bool E.out.symm, Below.refl _ _⟩
  have F := Lib.hid (show fin = namesTo l l.length by rw [hfin, namesB, q2]; rfl)
  clear hfin
  have h4 : l.length ≤ 4 := by have := inR_true q2; omega
  go_enter Tryz.func88, Tryz.ntmps88
  go_wp2_with (go_at_call 174; refine (l01In_any _ _ _ _).mono ?_; rintro e w' ⟨rfl, rfl⟩; rw [q2])
  go_loopw [3] (fun i wr => ∃ k : Nat, k ≤ l.length ∧ i = .int .i64 k ∧ namesTo l k = true ∧ Ext w wr) (fun i _ => l.length - (intOf i).toNat)
  case atStart => exact ⟨0, Nat.zero_le _, rfl, rfl, Below.refl _ _⟩
  case round =>
    obtain ⟨k, hk, rfl, hi, he⟩ := hrel
    have Hi := Lib.hid hi
    clear hi
    by_cases hlt : k < l.length
    case neg =>
      have E := Lib.hid (show fin = true by rw [F.out, show l.length = k by omega]; exact Hi.out)
      go_wp2_with fail
      go_ret
      exact ⟨ret_bool E.out.symm, he⟩
    have hR := hr.ext he
    obtain ⟨b, off, rfl, hb, hc⟩ := Reads.at_ hR.reads (k := k) (by omega)
    obtain ⟨d, hd⟩ : ∃ d, d = l[k]'(by omega) := ⟨_, rfl⟩
    have hdl : l[k]? = some d := by rw [hd]; exact List.getElem?_eq_getElem (by omega)
    have hds := hok d (List.mem_of_getElem? hdl)
    have c0 := hc 0 _ (flat_at _ 1 sone_length l k 0 d hdl (by omega))
    rw [Nat.add_zero, Nat.mul_one] at c0
    have Hd := Lib.hid hd
    clear hdl hd
    cases p1 : nameOk d
    · have E := Lib.hid (show fin = false by rw [F.out]; exact namesTo_bad hlt (Or.inl (by rw [← Hd.out]; exact p1)))
      clear hc
      go_wp2_with fail
      refine (specNameOk_any _ _ hds).mono ?_
      rintro e w1 ⟨rfl, rfl⟩
      rw [p1]
      go_wp2_with fail
      go_ret
      exact ⟨ret_bool E.out.symm, he⟩
    have HC := Lib.hid hc
    clear hc
    go_wp2_with fail
    refine (specNameOk_any _ _ hds).mono ?_
    rintro e w1 ⟨rfl, rfl⟩
    rw [p1]
    go_wp2_with fail
    have he2 := he
    go_loopw [4] (fun i wq => ∃ j : Nat, j ≤ k ∧ i = .int .i64 j ∧ freshTo l d j = true ∧ Ext wr wq) (fun i _ => k - (intOf i).toNat)
    case atStart => exact ⟨0, Nat.zero_le _, rfl, rfl, Below.refl _ _⟩
    case round =>
      obtain ⟨j, hj, rfl, hi2, hq⟩ := hrel
      have Hj := Lib.hid hi2
      clear hi2
      have c1 := (hq.cell (p := ⟨b, off + k, none⟩) hb).trans c0
      by_cases hjk : j < k
      case neg =>
        obtain rfl : j = k := by omega
        have E := Lib.hid (show namesTo l (j + 1) = true from namesTo_good hlt Hi.out (by rw [← Hd.out]; exact p1) (by rw [← Hd.out]; exact Hj.out))
        have E2 := Lib.hid (Ext.next he hq)
        go_wp2_with fail
        refine ⟨⟨j + 1, by omega, by go_num, E.out, E2.out⟩, ?_⟩
        simp [intOf]; omega
      obtain ⟨x, hx⟩ : ∃ x, x = l[j]'(by omega) := ⟨_, rfl⟩
      have hxl : l[j]? = some x := by rw [hx]; exact List.getElem?_eq_getElem (by omega)
      obtain ⟨b2, off2, e2, _, hc2⟩ := Reads.at_ hR.reads (k := j) (by omega)
      cases e2
      have c2 := (hq.cell (p := ⟨b, off + j * 1 + 0, none⟩) hb).trans (hc2 0 _ (flat_at _ 1 sone_length l j 0 x hxl (by omega)))
      rw [Nat.add_zero, Nat.mul_one] at c2
      clear hc2
      have Hs := Lib.hid (show freshTo l d (j + 1) = (freshTo l d j && !(x.toList == d.toList)) by rw [freshTo]; simp [hxl])
      have E2 := Lib.hid (Ext.next he hq)
      clear hxl hx
      cases p2 : (x.toList == d.toList)
      · have E := Lib.hid (show freshTo l d (j + 1) = true by rw [Hs.out, Hj.out, p2]; rfl)
        go_wp2_with fail
        go_region
        go_wp2_with fail
        refine ⟨⟨j + 1, by omega, by go_num, E.out, Below.drew hq⟩, ?_⟩
        simp [intOf]; omega
      · have E := Lib.hid (show fin = false by rw [F.out]; exact namesTo_bad hlt (Or.inr (by rw [← Hd.out]; exact freshTo_less (k := j + 1) (by rw [Hs.out, Hj.out, p2]; rfl) k hjk)))
        go_wp2_with fail
        go_region
        go_wp2_with fail
        go_ret
        exact ⟨ret_bool E.out.symm, Below.drew E2.out⟩
end Go.Proofs.YtkcjhfidgnbdiaaGreat
namespace Go.Proofs.YtkcjhfidgnbdiaaGreat
set_option linter.unusedSimpArgs false
open Go.RowKit
set_option linter.unusedVariables false
theorem bytes_ext {a b : ByteArray} (h : a.toList = b.toList) : a = b := by
  rw [ByteArray.toList_eq, ByteArray.toList_eq] at h
  obtain ⟨⟨x⟩⟩ := a
  obtain ⟨⟨y⟩⟩ := b
  have h : x = y := h
  rw [h]
theorem bytes_eq_iff {a b : ByteArray} : a.toList = b.toList ↔ a = b := ⟨bytes_ext, fun h => by rw [h]⟩
def EntryD.eqb (d e : EntryD) : Bool := (d.topic.toList == e.topic.toList) && (d.index == e.index) && (d.time == e.time) && (d.key.toList == e.key.toList) && (d.body.toList == e.body.toList)
theorem EntryD.eqb_iff (d e : EntryD) : d.eqb e = true ↔ d = e := by
  obtain ⟨a0, a1, a2, a3, a4⟩ := d
  obtain ⟨b0, b1, b2, b3, b4⟩ := e
  simp only [EntryD.eqb, Bool.and_eq_true, beq_iff_eq, bytes_eq_iff, EntryD.mk.injEq, and_assoc]
theorem EntryD.eqb_self (d : EntryD) : d.eqb d = true := (EntryD.eqb_iff d d).2 rfl
set_option maxHeartbeats 1000000 in
theorem EntryD.run_eql (d e : EntryD) (w : World) : (binOp .eql 66 (.agg #[.string d.topic, .int .i64 d.index, .int .i64 d.time, .string d.key, .string d.body]) (.agg #[.string e.topic, .int .i64 e.index, .int .i64 e.time, .string e.key, .string e.body])).run Tryz.prog w = .ok (.bool (d.eqb e)) w := by
  go_simp
  unfold EntryD.eqb
  (repeat' split) <;> simp [*]
set_option maxHeartbeats 1000000 in
theorem EntryD.run_neq (d e : EntryD) (w : World) : (binOp .neq 66 (.agg #[.string d.topic, .int .i64 d.index, .int .i64 d.time, .string d.key, .string d.body]) (.agg #[.string e.topic, .int .i64 e.index, .int .i64 e.time, .string e.key, .string e.body])).run Tryz.prog w = .ok (.bool (!(d.eqb e))) w := by
  go_simp
  unfold EntryD.eqb
  (repeat' split) <;> simp [*]
def ReceiptD.eqb (d e : ReceiptD) : Bool := (d.reader.toList == e.reader.toList) && (d.topic.toList == e.topic.toList) && (d.index == e.index)
theorem ReceiptD.eqb_iff (d e : ReceiptD) : d.eqb e = true ↔ d = e := by
  obtain ⟨a0, a1, a2⟩ := d
  obtain ⟨b0, b1, b2⟩ := e
  simp only [ReceiptD.eqb, Bool.and_eq_true, beq_iff_eq, bytes_eq_iff, ReceiptD.mk.injEq, and_assoc]
theorem ReceiptD.eqb_self (d : ReceiptD) : d.eqb d = true := (ReceiptD.eqb_iff d d).2 rfl
set_option maxHeartbeats 1000000 in
theorem ReceiptD.run_eql (d e : ReceiptD) (w : World) : (binOp .eql 97 (.agg #[.string d.reader, .string d.topic, .int .i64 d.index]) (.agg #[.string e.reader, .string e.topic, .int .i64 e.index])).run Tryz.prog w = .ok (.bool (d.eqb e)) w := by
  go_simp
  unfold ReceiptD.eqb
  (repeat' split) <;> simp [*]
set_option maxHeartbeats 1000000 in
theorem ReceiptD.run_neq (d e : ReceiptD) (w : World) : (binOp .neq 97 (.agg #[.string d.reader, .string d.topic, .int .i64 d.index]) (.agg #[.string e.reader, .string e.topic, .int .i64 e.index])).run Tryz.prog w = .ok (.bool (!(d.eqb e))) w := by
  go_simp
  unfold ReceiptD.eqb
  (repeat' split) <;> simp [*]
def HeadD.eqb (d e : HeadD) : Bool := (d.number == e.number) && (d.size == e.size) && (d.root.toList == e.root.toList) && (d.taken == e.taken) && (d.takenRoot.toList == e.takenRoot.toList)
theorem HeadD.eqb_iff (d e : HeadD) : d.eqb e = true ↔ d = e := by
  obtain ⟨a0, a1, a2, a3, a4⟩ := d
  obtain ⟨b0, b1, b2, b3, b4⟩ := e
  simp only [HeadD.eqb, Bool.and_eq_true, beq_iff_eq, bytes_eq_iff, HeadD.mk.injEq, and_assoc]
theorem HeadD.eqb_self (d : HeadD) : d.eqb d = true := (HeadD.eqb_iff d d).2 rfl
set_option maxHeartbeats 1000000 in
theorem HeadD.run_eql (d e : HeadD) (w : World) : (binOp .eql 33 (.agg #[.int .i64 d.number, .int .i64 d.size, .string d.root, .int .i64 d.taken, .string d.takenRoot]) (.agg #[.int .i64 e.number, .int .i64 e.size, .string e.root, .int .i64 e.taken, .string e.takenRoot])).run Tryz.prog w = .ok (.bool (d.eqb e)) w := by
  go_simp
  unfold HeadD.eqb
  (repeat' split) <;> simp [*]
set_option maxHeartbeats 1000000 in
theorem HeadD.run_neq (d e : HeadD) (w : World) : (binOp .neq 33 (.agg #[.int .i64 d.number, .int .i64 d.size, .string d.root, .int .i64 d.taken, .string d.takenRoot]) (.agg #[.int .i64 e.number, .int .i64 e.size, .string e.root, .int .i64 e.taken, .string e.takenRoot])).run Tryz.prog w = .ok (.bool (!(d.eqb e))) w := by
  go_simp
  unfold HeadD.eqb
  (repeat' split) <;> simp [*]
def CursorD.eqb (d e : CursorD) : Bool := (d.topic.toList == e.topic.toList) && (d.next == e.next) && (d.last == e.last)
theorem CursorD.eqb_iff (d e : CursorD) : d.eqb e = true ↔ d = e := by
  obtain ⟨a0, a1, a2⟩ := d
  obtain ⟨b0, b1, b2⟩ := e
  simp only [CursorD.eqb, Bool.and_eq_true, beq_iff_eq, bytes_eq_iff, CursorD.mk.injEq, and_assoc]
theorem CursorD.eqb_self (d : CursorD) : d.eqb d = true := (CursorD.eqb_iff d d).2 rfl
set_option maxHeartbeats 1000000 in
theorem CursorD.run_eql (d e : CursorD) (w : World) : (binOp .eql 307 (.agg #[.string d.topic, .int .i64 d.next, .int .i64 d.last]) (.agg #[.string e.topic, .int .i64 e.next, .int .i64 e.last])).run Tryz.prog w = .ok (.bool (d.eqb e)) w := by
  go_simp
  unfold CursorD.eqb
  (repeat' split) <;> simp [*]
set_option maxHeartbeats 1000000 in
theorem CursorD.run_neq (d e : CursorD) (w : World) : (binOp .neq 307 (.agg #[.string d.topic, .int .i64 d.next, .int .i64 d.last]) (.agg #[.string e.topic, .int .i64 e.next, .int .i64 e.last])).run Tryz.prog w = .ok (.bool (!(d.eqb e))) w := by
  go_simp
  unfold CursorD.eqb
  (repeat' split) <;> simp [*]
def PreD.eqb (d e : PreD) : Bool := (d.tag == e.tag) && (d.text.toList == e.text.toList)
theorem PreD.eqb_iff (d e : PreD) : d.eqb e = true ↔ d = e := by
  obtain ⟨a0, a1⟩ := d
  obtain ⟨b0, b1⟩ := e
  simp only [PreD.eqb, Bool.and_eq_true, beq_iff_eq, bytes_eq_iff, PreD.mk.injEq, and_assoc]
theorem PreD.eqb_self (d : PreD) : d.eqb d = true := (PreD.eqb_iff d d).2 rfl
end Go.Proofs.YtkcjhfidgnbdiaaGreat
namespace Go.Proofs.YtkcjhfidgnbdiaaGreat
set_option linter.unusedSimpArgs false
open Go.RowKit
set_option linter.unusedVariables false

/-- What was read so far. -/
def Sofar (T : ByteArray) (r : Rd) (X : ByteArray) : Prop := r.bad = false → T.extract 0 r.pos = X ∧ r.pos ≤ T.size
theorem Sofar.start (T : ByteArray) : Sofar T ⟨0, false⟩ ⟨#[]⟩ := fun _ => ⟨by simp; rfl, Nat.zero_le _⟩
theorem rdNext_ok {T : ByteArray} {r : Rd} {n : Nat} (h : (rdNext T r n).bad = false) : r.bad = false ∧ (rdNext T r n).pos = r.pos + n ∧ r.pos + n ≤ T.size ∧ rdTake T r n = T.extract r.pos (r.pos + n) := by
  unfold rdNext at h ⊢
  unfold rdTake
  cases hf : rdFails T r n
  · simp only [rdFails, Bool.or_eq_false_iff, decide_eq_false_iff_not] at hf
    exact ⟨hf.1, rfl, by omega, rfl⟩
  · rw [hf] at h; simp at h
theorem Sofar.take {T : ByteArray} {r : Rd} {X : ByteArray} (h : Sofar T r X) (n : Nat) : Sofar T (rdNext T r n) (X ++ rdTake T r n) := by
  intro hb
  obtain ⟨h1, h2, h3, h4⟩ := rdNext_ok hb
  obtain ⟨h5, h6⟩ := h h1
  refine ⟨?_, by omega⟩
  rw [h2, h4, ← h5]
  exact ByteArray.extract_eq_extract_append_extract r.pos (Nat.zero_le _) (by omega)
theorem rdTake_full {T : ByteArray} {r : Rd} {n : Nat} (h : (rdNext T r n).bad = false) : (rdTake T r n).size = n := by
  obtain ⟨h1, h2, h3, h4⟩ := rdNext_ok h
  rw [h4, ByteArray.size_extract]; omega
theorem ofNat_mod (m : Nat) (c : UInt8) (h : m % 256 = c.toNat) : UInt8.ofNat m = c := by
  apply UInt8.toNat_inj.1
  rw [UInt8.toNat_ofNat']
  have := c.toNat_lt
  show m % 256 = _
  omega
theorem one_of (b : ByteArray) (h : b.size = 1) : octB (beNum b : Int) = b := by
  obtain ⟨⟨l⟩⟩ := b
  match l, h with
  | [c], _ =>
    simp only [beNum, octB, ofInts, List.foldl_cons, List.foldl_nil, List.map_cons, List.map_nil]
    rw [ofNat_mod _ c (by have := c.toNat_lt; omega)]
theorem two_of (b : ByteArray) (h : b.size = 2) : octB ((beNum b : Int) / 256) ++ octB (beNum b : Int) = b := by
  obtain ⟨⟨l⟩⟩ := b
  match l, h with
  | [c, d], _ =>
    simp only [beNum, octB, ofInts, List.foldl_cons, List.foldl_nil, List.map_cons, List.map_nil]
    rw [ofNat_mod _ c (by have := c.toNat_lt; have := d.toNat_lt; omega), ofNat_mod _ d (by have := c.toNat_lt; have := d.toNat_lt; omega)]
    rfl
theorem lenB (b x : ByteArray) (h : b.size = 1) (hx : x.size = beNum b) : octB (x.size : Int) = b := by rw [hx, one_of b h]
/-- The text that was told and the text that is made again of what was read. -/
theorem reread {T K k X : ByteArray} {r : Rd} (h : Sofar T r (K ++ X)) (hb : r.bad = false) (hs : K.size = k.size) : (decide (K = k) && rdDone T r) = decide (k ++ X = T) := by
  obtain ⟨h1, h2⟩ := h hb
  rw [Bool.eq_iff_iff]
  simp only [rdDone, hb, Bool.and_eq_true, decide_eq_true_eq, Bool.not_false, true_and]
  constructor
  · rintro ⟨rfl, h3⟩
    rw [← h1, h3]; exact ByteArray.extract_zero_size
  · intro h3
    have h4 := congrArg ByteArray.size h1
    have h5 := congrArg ByteArray.size h3
    rw [ByteArray.size_extract] at h4
    rw [ByteArray.size_append] at h4 h5
    have h6 : r.pos = T.size := by omega
    refine ⟨?_, h6⟩
    have h7 : K ++ X = k ++ X := by rw [← h1, h3, h6]; exact ByteArray.extract_zero_size
    exact ByteArray.append_inj_left h7 hs
theorem reread_bad {T : ByteArray} {r : Rd} (hb : r.bad = true) : rdDone T r = false := by simp [rdDone, hb]
theorem rdShortNext_ok {T : ByteArray} {r : Rd} {n : Nat} (h : (rdShortNext T r n).bad = false) : r.bad = false ∧ (rdNext T r n).bad = false ∧ (rdTake T r n).size = n ∧ (rdShort T r n).size = beNum (rdTake T r n) := by
  have h1 : (rdNext T r n).bad = false := (rdNext_ok h).1
  exact ⟨(rdNext_ok h1).1, h1, rdTake_full h1, rdTake_full h⟩
theorem bytes_beq (a b : ByteArray) : (a.toList == b.toList) = decide (a = b) := by
  rw [Bool.eq_iff_iff]; simp [bytes_eq_iff]
theorem kind_of (b : ByteArray) (c : UInt8) : (b.toList == [c]) = decide (b = ⟨#[c]⟩) := by
  have h : (⟨#[c]⟩ : ByteArray).toList = [c] := by rw [ByteArray.toList_eq]
  have h2 := bytes_beq b ⟨#[c]⟩
  rw [h] at h2
  exact h2
end Go.Proofs.YtkcjhfidgnbdiaaGreat
