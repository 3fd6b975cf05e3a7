/-
  Name; Reader; Types: No condition.
-/
import Derived.Test.YtlgdghpnfclgpaaGreatProg
import Derived.Test.YtlgdghpnfclgpaaGreatArgs
import Derived.Test.YtlgdghpnfclgpaaGreatMem
import Derived.IntWalk
import Derived.Laws.IdiomStrings
import Derived.Laws.BitsAllLaws
import Derived.Laws.BitsLemmas
namespace Go.Proofs.YtlgdghpnfclgpaaGreat
set_option maxHeartbeats 1000000
set_option linter.unusedSimpArgs false
open Go.RowKit
set_option linter.unusedVariables false
def nameByte (c : UInt8) : Bool := decide (97 ≤ (c.toNat : Int) ∧ (c.toNat : Int) ≤ 122 ∨ 48 ≤ (c.toNat : Int) ∧ (c.toNat : Int) ≤ 57 ∨ (c.toNat : Int) = 45)
def nameOk (s : ByteArray) : Bool := inR s.size 1 20 && s.data.toList.all nameByte
def AllInv (p : UInt8 → Bool) (s : ByteArray) (fin : Bool) (k : Nat) : Prop := (s.data.toList.drop k).all p = fin
theorem AllInv.done {p : UInt8 → Bool} {s : ByteArray} {fin : Bool} {k : Nat} (h : AllInv p s fin k) (hk : s.size ≤ k) : fin = true := by
 unfold AllInv at h
 rw [List.drop_eq_nil_of_le (by simpa using hk)] at h
 simpa using h.symm
theorem AllInv.step {p : UInt8 → Bool} {s : ByteArray} {fin : Bool} {k : Nat} (h : AllInv p s fin k) (hk : k < s.size) : (p s[k] = false → fin = false) ∧ (p s[k] = true → AllInv p s fin (k + 1)) := by
 unfold AllInv at h
 rw [List.drop_eq_getElem_cons (by simpa using hk)] at h
 have e : s.data.toList[k]'(by simpa using hk) = s[k] := rfl
 rw [e] at h
 simp only [List.all_cons] at h
 exact ⟨fun e => by rw [e] at h; simpa using h.symm, fun e => by rw [e] at h; simpa [AllInv] using h⟩
theorem ret_bool {a b : Bool} (h : a = b) : Ending.returned (.bool a) = .returned (.bool b) := by rw [h]
theorem Ext.drewN {W w : World} (h : Ext W w) (n : Nat) : Ext W (w.drewN n) := ⟨h.os, h.tape, h.output, h.size, h.block⟩
theorem specNameOk_any (s : ByteArray) (w : World) (hs : s.size ≤ maxLen) :
 Calls Tryz.prog 185 #[.string s] w fun e w' => e = .returned (.bool (nameOk s)) ∧ w = w' := by
 unfold maxLen at hs
 cases hin : inR s.size 1 20
 · have Hp := hU (show nameOk s = false by simp [nameOk, hin])
   go_enter Tryz.func185, Tryz.ntmps185
   go_wp2_with (go_at_call 181; refine (l01In_any _ _ _ _).mono ?_; rintro e w' ⟨rfl, rfl⟩)
   go_ret
   exact ⟨ret_bool Hp.out.symm, rfl⟩
 · obtain ⟨fin, hfin⟩ : ∃ fin, fin = nameOk s := ⟨_, rfl⟩
   have Hi : AllInv nameByte s fin 0 := by rw [hfin]; simp [AllInv, nameOk, hin]
   rw [← hfin]; clear hfin
   go_enter Tryz.func185, Tryz.ntmps185
   go_wp2_with (go_at_call 181; refine (l01In_any _ _ _ _).mono ?_; rintro e w' ⟨rfl, rfl⟩)
   go_loop [3] (fun i => ∃ k : Nat, k ≤ s.size ∧ i = .int .i64 k ∧ AllInv nameByte s fin k) (fun i => s.size - (intOf i).toNat)
   case atStart => exact ⟨0, Nat.zero_le _, rfl, Hi⟩
   case round =>
    obtain ⟨k, hk, rfl, hi⟩ := hrel
    clear Hi
    by_cases hlt : k < s.size
    · obtain ⟨s1, s2⟩ := hi.step hlt
      clear hi
      have S1 := hU s1; have S2 := hU s2; clear s1 s2
      have h7 : (s[k].toNat : Int) < 45 ∨ (45 ≤ (s[k].toNat : Int) ∧ (s[k].toNat : Int) ≤ 45) ∨ (46 ≤ (s[k].toNat : Int) ∧ (s[k].toNat : Int) ≤ 47) ∨ (48 ≤ (s[k].toNat : Int) ∧ (s[k].toNat : Int) ≤ 57) ∨ (58 ≤ (s[k].toNat : Int) ∧ (s[k].toNat : Int) ≤ 96) ∨ (97 ≤ (s[k].toNat : Int) ∧ (s[k].toNat : Int) ≤ 122) ∨ 122 < (s[k].toNat : Int) := by omega
      rcases h7 with h | ⟨h, h'⟩ | ⟨h, h'⟩ | ⟨h, h'⟩ | ⟨h, h'⟩ | ⟨h, h'⟩ | h
      case inr.inl =>
       have E := hU (S2.out (by simp only [nameByte, decide_eq_true_eq]; omega))
       have hd : ((s[k].toNat : Int) == 45) = true := by rw [beq_iff_eq]; omega
       go_wp2_with fail
       go_round
       case rel => exact ⟨k + 1, by omega, by go_num, E.out⟩
       case measure => simp [intOf]; omega
      case inr.inr.inr.inl | inr.inr.inr.inr.inr.inl =>
       have E := hU (S2.out (by simp only [nameByte, decide_eq_true_eq]; omega))
       go_wp2_with fail
       go_round
       case rel => exact ⟨k + 1, by omega, by go_num, E.out⟩
       case measure => simp [intOf]; omega
      case inr.inr.inr.inr.inr.inr =>
       have E := hU (S1.out (by simp only [nameByte, decide_eq_false_iff_not]; omega))
       have hd : ((s[k].toNat : Int) == 45) = false := by rw [beq_eq_false_iff_ne]; omega
       have d1 : decide ((s[k].toNat : Int) ≤ 122) = false := by rw [decide_eq_false_iff_not]; omega
       have d2 : decide ((s[k].toNat : Int) ≤ 57) = false := by rw [decide_eq_false_iff_not]; omega
       go_wp2_with fail
       go_ret
       exact ⟨ret_bool E.out.symm, rfl⟩
      case inr.inr.inr.inr.inl =>
       have E := hU (S1.out (by simp only [nameByte, decide_eq_false_iff_not]; omega))
       have hd : ((s[k].toNat : Int) == 45) = false := by rw [beq_eq_false_iff_ne]; omega
       have d2 : decide ((s[k].toNat : Int) ≤ 57) = false := by rw [decide_eq_false_iff_not]; omega
       go_wp2_with fail
       go_ret
       exact ⟨ret_bool E.out.symm, rfl⟩
      all_goals
       have E := hU (S1.out (by simp only [nameByte, decide_eq_false_iff_not]; omega))
       have hd : ((s[k].toNat : Int) == 45) = false := by rw [beq_eq_false_iff_ne]; omega
       go_wp2_with fail
       go_ret
       exact ⟨ret_bool E.out.symm, rfl⟩
    · have E := hU (hi.done (by omega))
      clear hi
      go_wp2_with fail
      go_ret
      exact ⟨ret_bool E.out.symm, rfl⟩
theorem NameOk_any (s : ByteArray) (w : World) (hs : s.size ≤ maxLen) :
 Calls Tryz.prog 194 #[.string s] w fun e w' => e = .returned (.bool (nameOk s)) ∧ w = w' := by
 unfold maxLen at hs
 obtain ⟨fin, hfin⟩ : ∃ fin, fin = s.data.toList.all nameByte := ⟨_, rfl⟩
 have Hi : AllInv nameByte s fin 0 := by rw [hfin]; simp [AllInv]
 have Hf : Hid (nameOk s = (inR s.size 1 20 && fin)) := by rw [hfin]; exact hU rfl
 clear hfin
 go_enter Tryz.func194, Tryz.ntmps194
 go_wp2_with fail
 go_loop [3] (fun i => ∃ k : Nat, k ≤ s.size ∧ i = .int .i64 k ∧ AllInv nameByte s fin k) (fun i => s.size - (intOf i).toNat)
 case atStart => exact ⟨0, Nat.zero_le _, rfl, Hi⟩
 case round =>
  obtain ⟨k, hk, rfl, hi⟩ := hrel
  clear Hi
  by_cases hlt : k < s.size
  · obtain ⟨s1, s2⟩ := hi.step hlt
    clear hi
    have S1 := hU s1; have S2 := hU s2; clear s1 s2
    have h7 : (s[k].toNat : Int) < 45 ∨ (45 ≤ (s[k].toNat : Int) ∧ (s[k].toNat : Int) ≤ 45) ∨ (46 ≤ (s[k].toNat : Int) ∧ (s[k].toNat : Int) ≤ 47) ∨ (48 ≤ (s[k].toNat : Int) ∧ (s[k].toNat : Int) ≤ 57) ∨ (58 ≤ (s[k].toNat : Int) ∧ (s[k].toNat : Int) ≤ 96) ∨ (97 ≤ (s[k].toNat : Int) ∧ (s[k].toNat : Int) ≤ 122) ∨ 122 < (s[k].toNat : Int) := by omega
    rcases h7 with h | ⟨h, h'⟩ | ⟨h, h'⟩ | ⟨h, h'⟩ | ⟨h, h'⟩ | ⟨h, h'⟩ | h
    case inr.inl =>
     have E := hU (S2.out (by simp only [nameByte, decide_eq_true_eq]; omega))
     have hd : ((s[k].toNat : Int) == 45) = true := by rw [beq_iff_eq]; omega
     go_wp2_with fail
     go_round
     case rel => exact ⟨k + 1, by omega, by go_num, E.out⟩
     case measure => simp [intOf]; omega
    case inr.inr.inr.inl | inr.inr.inr.inr.inr.inl =>
     have E := hU (S2.out (by simp only [nameByte, decide_eq_true_eq]; omega))
     go_wp2_with fail
     go_round
     case rel => exact ⟨k + 1, by omega, by go_num, E.out⟩
     case measure => simp [intOf]; omega
    case inr.inr.inr.inr.inr.inr =>
     have E := hU (S1.out (by simp only [nameByte, decide_eq_false_iff_not]; omega))
     have hd : ((s[k].toNat : Int) == 45) = false := by rw [beq_eq_false_iff_ne]; omega
     have d1 : decide ((s[k].toNat : Int) ≤ 122) = false := by rw [decide_eq_false_iff_not]; omega
     have d2 : decide ((s[k].toNat : Int) ≤ 57) = false := by rw [decide_eq_false_iff_not]; omega
     go_wp2_with fail
     go_ret
     exact ⟨ret_bool (by rw [Hf.out, E.out, Bool.and_false]), rfl⟩
    case inr.inr.inr.inr.inl =>
     have E := hU (S1.out (by simp only [nameByte, decide_eq_false_iff_not]; omega))
     have hd : ((s[k].toNat : Int) == 45) = false := by rw [beq_eq_false_iff_ne]; omega
     have d2 : decide ((s[k].toNat : Int) ≤ 57) = false := by rw [decide_eq_false_iff_not]; omega
     go_wp2_with fail
     go_ret
     exact ⟨ret_bool (by rw [Hf.out, E.out, Bool.and_false]), rfl⟩
    all_goals
     have E := hU (S1.out (by simp only [nameByte, decide_eq_false_iff_not]; omega))
     have hd : ((s[k].toNat : Int) == 45) = false := by rw [beq_eq_false_iff_ne]; omega
     go_wp2_with fail
     go_ret
     exact ⟨ret_bool (by rw [Hf.out, E.out, Bool.and_false]), rfl⟩
  · have E := hU (hi.done (by omega))
    clear hi
    go_wp2_with fail
    refine (inRange_any _ _ _ _).mono ?_
    rintro e w1 ⟨rfl, rfl⟩
    go_wp2_with fail
    go_ret
    exact ⟨ret_bool (by rw [Hf.out, E.out, Bool.and_true]), rfl⟩
theorem ret_str {a b : ByteArray} (h : a = b) : Ending.returned (.string a) = .returned (.string b) := by rw [h]
abbrev ExtBut (g : Nat) (W w : World) : Prop := W.grownBy w (some g)
theorem ExtBut.refl (g : Nat) (w : World) : ExtBut g w w := ⟨rfl, rfl, rfl, Nat.le_refl _, fun _ _ _ => rfl⟩
theorem ExtBut.next {g : Nat} {a b c : World} (h : ExtBut g a b) (k : ExtBut g b c) : ExtBut g a c :=
 ⟨k.os.trans h.os, k.tape.trans h.tape, k.output.trans h.output, Nat.le_trans h.size k.size, fun i hi hne => (k.block i (Nat.lt_of_lt_of_le hi h.size) hne).trans (h.block i hi hne)⟩
theorem ExtBut.of_ext {g : Nat} {a b : World} (h : Ext a b) : ExtBut g a b := ⟨h.os, h.tape, h.output, h.size, fun i hi _ => h.block i hi⟩
theorem ExtBut.drewN {g : Nat} {a b : World} (h : ExtBut g a b) (n : Nat) : ExtBut g a (b.drewN n) := ⟨h.os, h.tape, h.output, h.size, h.block⟩
theorem ExtBut.set_ {g : Nat} {a w : World} (h : ExtBut g a w) (i : Nat) (u : Value) : ExtBut g a (w.setCell ⟨g, i, none⟩ u) :=
 ⟨h.os, h.tape, h.output, by simpa [World.setCell] using h.size, fun k hk hne => (Below.heap_setCell w ⟨g, i, none⟩ u k (by rintro rfl; exact hne rfl)).trans (h.block k hk hne)⟩
structure Rd where
 pos : Nat
 bad : Bool
def rdFails (T : ByteArray) (r : Rd) (n : Nat) : Bool := r.bad || decide ((T.size : Int) - (r.pos : Int) < (n : Int))
def rdTake (T : ByteArray) (r : Rd) (n : Nat) : ByteArray := if rdFails T r n then ⟨#[]⟩ else T.extract r.pos (r.pos + n)
def rdNext (T : ByteArray) (r : Rd) (n : Nat) : Rd := if rdFails T r n then ⟨r.pos, true⟩ else ⟨r.pos + n, false⟩
def beNum (b : ByteArray) : Nat := b.data.toList.foldl (fun a c => 256 * a + c.toNat) 0
theorem beNum_lt : ∀ (l : List UInt8) (a : Nat), l.foldl (fun a c => 256 * a + c.toNat) a < (a + 1) * 256 ^ l.length
 | [], a => by simp
 | c :: l, a => by
   have h := beNum_lt l (256 * a + c.toNat)
   have hc : c.toNat < 256 := c.toNat_lt
   have h2 : (256 * a + c.toNat + 1) * 256 ^ l.length ≤ ((a + 1) * 256) * 256 ^ l.length := Nat.mul_le_mul_right _ (by omega)
   rw [List.length_cons, Nat.pow_succ]
   simp only [List.foldl_cons]
   calc _ < _ := h
    _ ≤ _ := h2
    _ = _ := by rw [Nat.mul_assoc, Nat.mul_comm 256]
def NumInv (b : ByteArray) (k : Nat) (v : Nat) : Prop := v = (b.data.toList.take k).foldl (fun a c => 256 * a + c.toNat) 0
theorem NumInv.start (b : ByteArray) : NumInv b 0 0 := by simp [NumInv]
theorem NumInv.step {b : ByteArray} {k v : Nat} (h : NumInv b k v) (hk : k < b.size) : NumInv b (k + 1) (256 * v + b[k].toNat) := by
 unfold NumInv at *
 rw [List.take_succ_eq_append_getElem (by simpa using hk), List.foldl_append, ← h]
 rfl
theorem NumInv.done {b : ByteArray} {k v : Nat} (h : NumInv b k v) (hk : b.size ≤ k) : v = beNum b := by
 unfold NumInv at h
 rw [List.take_of_length_le (by simpa using hk)] at h
 exact h
theorem NumInv.lt {b : ByteArray} {k v : Nat} (h : NumInv b k v) (hk : k ≤ 4) : v < 4294967296 := by
 rw [h]
 have := beNum_lt (b.data.toList.take k) 0
 have h2 : (b.data.toList.take k).length ≤ 4 := by rw [List.length_take]; omega
 have h3 : 256 ^ (b.data.toList.take k).length ≤ 256 ^ 4 := Nat.pow_le_pow_right (by decide) h2
 simp only [Nat.zero_add, Nat.one_mul] at this
 omega
theorem to_bytes {P : Program} {src dst e : TypeId} (s : ByteArray) (hs : P.underlying src = some .string) (hd : P.underlying dst = some (.slice e)) (he : P.underlying e = some (.int .u8)) (w : World) :
 ∃ (cap : Nat) (w1 : World), (convert src dst (.string s)).run P w = .ok (.slice (some ⟨w.heap.size, 0, none⟩) s.size cap) w1 ∧ Ext w w1 ∧ ∀ j (hj : j < s.size), w1.cell? ⟨w.heap.size, j, none⟩ = some (.int .u8 (s[j].toNat : Int)) := by
 refine ⟨_, _, run_bytes_of_string w src dst e s hs hd he, Below.alloc (Below.refl _ _).drew (Nat.le_refl _) _, fun j hj => ?_⟩
 have h := World.cell?_alloc_mark w.drew (bytesRow s (grownCap w s.size 0 e)) e ((bytesRow s (grownCap w s.size 0 e)).size, (bytesRow s (grownCap w s.size 0 e)).size + 1) j
 exact h.trans (bytesRow_at s _ j hj)
def rdShort (T : ByteArray) (r : Rd) (n : Nat) : ByteArray := rdTake T (rdNext T r n) (beNum (rdTake T r n))
def rdShortNext (T : ByteArray) (r : Rd) (n : Nat) : Rd := rdNext T (rdNext T r n) (beNum (rdTake T r n))
def rdDone (T : ByteArray) (r : Rd) : Bool := !r.bad && decide (r.pos = T.size)
set_option maxRecDepth 100000
structure EntryD where
 topic : ByteArray
 index : Int
 time : Int
 key : ByteArray
 body : ByteArray
def EntryD.cells (d : EntryD) : List Value := [.string d.topic, .int .i64 d.index, .int .i64 d.time, .string d.key, .string d.body]
theorem EntryD.cells_length (d : EntryD) : d.cells.length = 5 := rfl
def EntryD.Ok (d : EntryD) : Prop := d.topic.size ≤ maxLen ∧ (Lit.int .i64 d.index).wf = true ∧ (Lit.int .i64 d.time).wf = true ∧ d.key.size ≤ maxLen ∧ d.body.size ≤ maxLen
structure ReceiptD where
 reader : ByteArray
 topic : ByteArray
 index : Int
def ReceiptD.cells (d : ReceiptD) : List Value := [.string d.reader, .string d.topic, .int .i64 d.index]
theorem ReceiptD.cells_length (d : ReceiptD) : d.cells.length = 3 := rfl
def ReceiptD.Ok (d : ReceiptD) : Prop := d.reader.size ≤ maxLen ∧ d.topic.size ≤ maxLen ∧ (Lit.int .i64 d.index).wf = true
structure WriteD where
 file : Int
 at_ : Int
 text : ByteArray
def WriteD.cells (d : WriteD) : List Value := [.int .i64 d.file, .int .i64 d.at_, .string d.text]
theorem WriteD.cells_length (d : WriteD) : d.cells.length = 3 := rfl
def WriteD.Ok (d : WriteD) : Prop := (Lit.int .i64 d.file).wf = true ∧ (Lit.int .i64 d.at_).wf = true ∧ d.text.size ≤ maxLen
structure HeadD where
 number : Int
 size : Int
 root : ByteArray
 taken : Int
 takenRoot : ByteArray
def HeadD.cells (d : HeadD) : List Value := [.int .i64 d.number, .int .i64 d.size, .string d.root, .int .i64 d.taken, .string d.takenRoot]
theorem HeadD.cells_length (d : HeadD) : d.cells.length = 5 := rfl
def HeadD.Ok (d : HeadD) : Prop := (Lit.int .i64 d.number).wf = true ∧ (Lit.int .i64 d.size).wf = true ∧ d.root.size ≤ maxLen ∧ (Lit.int .i64 d.taken).wf = true ∧ d.takenRoot.size ≤ maxLen
structure CursorD where
 topic : ByteArray
 next : Int
 last : Int
def CursorD.cells (d : CursorD) : List Value := [.string d.topic, .int .i64 d.next, .int .i64 d.last]
theorem CursorD.cells_length (d : CursorD) : d.cells.length = 3 := rfl
def CursorD.Ok (d : CursorD) : Prop := d.topic.size ≤ maxLen ∧ (Lit.int .i64 d.next).wf = true ∧ (Lit.int .i64 d.last).wf = true
structure EvidenceD where
 width : Int
 a : HeadD
 b : HeadD
def EvidenceD.cells (d : EvidenceD) : List Value := [.int .i64 d.width, .int .i64 d.a.number, .int .i64 d.a.size, .string d.a.root, .int .i64 d.a.taken, .string d.a.takenRoot, .int .i64 d.b.number, .int .i64 d.b.size, .string d.b.root, .int .i64 d.b.taken, .string d.b.takenRoot]
theorem EvidenceD.cells_length (d : EvidenceD) : d.cells.length = 11 := rfl
def EvidenceD.Ok (d : EvidenceD) : Prop := (Lit.int .i64 d.width).wf = true ∧ (Lit.int .i64 d.a.number).wf = true ∧ (Lit.int .i64 d.a.size).wf = true ∧ d.a.root.size ≤ maxLen ∧ (Lit.int .i64 d.a.taken).wf = true ∧ d.a.takenRoot.size ≤ maxLen ∧ (Lit.int .i64 d.b.number).wf = true ∧ (Lit.int .i64 d.b.size).wf = true ∧ d.b.root.size ≤ maxLen ∧ (Lit.int .i64 d.b.taken).wf = true ∧ d.b.takenRoot.size ≤ maxLen
structure PreD where
 tag : Int
 text : ByteArray
def PreD.cells (d : PreD) : List Value := [.int .i64 d.tag, .string d.text]
theorem PreD.cells_length (d : PreD) : d.cells.length = 2 := rfl
def PreD.Ok (d : PreD) : Prop := (Lit.int .i64 d.tag).wf = true ∧ d.text.size ≤ maxLen
structure ActD where
 kind : Int
 who : Int
 other : Int
 topic : ByteArray
 index : Int
 time : Int
 key : ByteArray
 body : ByteArray
 cut : Bool
 whole_ : Int
 part_ : Int
 again : Int
def ActD.cells (d : ActD) : List Value := [.int .i64 d.kind, .int .i64 d.who, .int .i64 d.other, .string d.topic, .int .i64 d.index, .int .i64 d.time, .string d.key, .string d.body, .bool d.cut, .int .i64 d.whole_, .int .i64 d.part_, .int .i64 d.again]
theorem ActD.cells_length (d : ActD) : d.cells.length = 12 := rfl
def ActD.Ok (d : ActD) : Prop := (Lit.int .i64 d.kind).wf = true ∧ (Lit.int .i64 d.who).wf = true ∧ (Lit.int .i64 d.other).wf = true ∧ d.topic.size ≤ maxLen ∧ (Lit.int .i64 d.index).wf = true ∧ (Lit.int .i64 d.time).wf = true ∧ d.key.size ≤ maxLen ∧ d.body.size ≤ maxLen ∧ (Lit.int .i64 d.whole_).wf = true ∧ (Lit.int .i64 d.part_).wf = true ∧ (Lit.int .i64 d.again).wf = true
structure MoveD where
 kind : Int
 who : Int
 other : Int
 topic : ByteArray
 index : Int
 text : ByteArray
def MoveD.cells (d : MoveD) : List Value := [.int .i64 d.kind, .int .i64 d.who, .int .i64 d.other, .string d.topic, .int .i64 d.index, .string d.text]
theorem MoveD.cells_length (d : MoveD) : d.cells.length = 6 := rfl
def MoveD.Ok (d : MoveD) : Prop := (Lit.int .i64 d.kind).wf = true ∧ (Lit.int .i64 d.who).wf = true ∧ (Lit.int .i64 d.other).wf = true ∧ d.topic.size ≤ maxLen ∧ (Lit.int .i64 d.index).wf = true ∧ d.text.size ≤ maxLen
structure GivenD where
 who : Int
 leaf : Int
 entry : EntryD
def GivenD.cells (d : GivenD) : List Value := [.int .i64 d.who, .int .i64 d.leaf, .string d.entry.topic, .int .i64 d.entry.index, .int .i64 d.entry.time, .string d.entry.key, .string d.entry.body]
theorem GivenD.cells_length (d : GivenD) : d.cells.length = 7 := rfl
def GivenD.Ok (d : GivenD) : Prop := (Lit.int .i64 d.who).wf = true ∧ (Lit.int .i64 d.leaf).wf = true ∧ d.entry.topic.size ≤ maxLen ∧ (Lit.int .i64 d.entry.index).wf = true ∧ (Lit.int .i64 d.entry.time).wf = true ∧ d.entry.key.size ≤ maxLen ∧ d.entry.body.size ≤ maxLen
structure MeetingD where
 a : Int
 b : Int
 given : Int
 scans : Bool
def MeetingD.cells (d : MeetingD) : List Value := [.int .i64 d.a, .int .i64 d.b, .int .i64 d.given, .bool d.scans]
theorem MeetingD.cells_length (d : MeetingD) : d.cells.length = 4 := rfl
def MeetingD.Ok (d : MeetingD) : Prop := (Lit.int .i64 d.a).wf = true ∧ (Lit.int .i64 d.b).wf = true ∧ (Lit.int .i64 d.given).wf = true
structure EventD where
 kind : Int
 who : Int
 leaf : Int
 code : Int
def EventD.cells (d : EventD) : List Value := [.int .i64 d.kind, .int .i64 d.who, .int .i64 d.leaf, .int .i64 d.code]
theorem EventD.cells_length (d : EventD) : d.cells.length = 4 := rfl
def EventD.Ok (d : EventD) : Prop := (Lit.int .i64 d.kind).wf = true ∧ (Lit.int .i64 d.who).wf = true ∧ (Lit.int .i64 d.leaf).wf = true ∧ (Lit.int .i64 d.code).wf = true
theorem EntryD.typed {w : World} {n : Nat} {cs : List Value} (h : Typed Tryz.prog w n 212 cs) : ∃ d : EntryD, cs = d.cells ∧ d.Ok := by
 obtain ⟨hl, m, hf⟩ := typed_struct Tryz.underlying212 h
 have hC : Tryz.prog.cellsOf 212 = 5 := by kernel_rfl
 have hI : Tryz.prog.cellsOf 3 = 1 := by kernel_rfl
 have hS : Tryz.prog.cellsOf 9 = 1 := by kernel_rfl
 rw [hC] at hl
 match cs, hl with
 | [c0, c1, c2, c3, c4], _ =>
   have f0 := hf _ (List.mem_iff_getElem?.2 ⟨0, rfl⟩)
   simp only [hS, List.drop_zero, List.take_succ_cons, List.take_zero] at f0
   obtain ⟨a0, e0, w0⟩ := typed_string Tryz.underlying9 f0
   obtain rfl : c0 = _ := by simpa using e0
   have f1 := hf _ (List.mem_iff_getElem?.2 ⟨1, rfl⟩)
   simp only [hI, List.drop_succ_cons, List.drop_zero, List.take_succ_cons, List.take_zero] at f1
   obtain ⟨a1, e1, w1⟩ := typed_int Tryz.underlying3 f1
   obtain rfl : c1 = _ := by simpa using e1
   have f2 := hf _ (List.mem_iff_getElem?.2 ⟨2, rfl⟩)
   simp only [hI, List.drop_succ_cons, List.drop_zero, List.take_succ_cons, List.take_zero] at f2
   obtain ⟨a2, e2, w2⟩ := typed_int Tryz.underlying3 f2
   obtain rfl : c2 = _ := by simpa using e2
   have f3 := hf _ (List.mem_iff_getElem?.2 ⟨3, rfl⟩)
   simp only [hS, List.drop_succ_cons, List.drop_zero, List.take_succ_cons, List.take_zero] at f3
   obtain ⟨a3, e3, w3⟩ := typed_string Tryz.underlying9 f3
   obtain rfl : c3 = _ := by simpa using e3
   have f4 := hf _ (List.mem_iff_getElem?.2 ⟨4, rfl⟩)
   simp only [hS, List.drop_succ_cons, List.drop_zero, List.take_succ_cons, List.take_zero] at f4
   obtain ⟨a4, e4, w4⟩ := typed_string Tryz.underlying9 f4
   obtain rfl : c4 = _ := by simpa using e4
   exact ⟨⟨a0, a1, a2, a3, a4⟩, rfl, by simp only [EntryD.Ok]; simp only [and_assoc] at *; simp [*]⟩
theorem ReceiptD.typed {w : World} {n : Nat} {cs : List Value} (h : Typed Tryz.prog w n 74 cs) : ∃ d : ReceiptD, cs = d.cells ∧ d.Ok := by
 obtain ⟨hl, m, hf⟩ := typed_struct Tryz.underlying74 h
 have hC : Tryz.prog.cellsOf 74 = 3 := by kernel_rfl
 have hI : Tryz.prog.cellsOf 3 = 1 := by kernel_rfl
 have hS : Tryz.prog.cellsOf 9 = 1 := by kernel_rfl
 rw [hC] at hl
 match cs, hl with
 | [c0, c1, c2], _ =>
   have f0 := hf _ (List.mem_iff_getElem?.2 ⟨0, rfl⟩)
   simp only [hS, List.drop_zero, List.take_succ_cons, List.take_zero] at f0
   obtain ⟨a0, e0, w0⟩ := typed_string Tryz.underlying9 f0
   obtain rfl : c0 = _ := by simpa using e0
   have f1 := hf _ (List.mem_iff_getElem?.2 ⟨1, rfl⟩)
   simp only [hS, List.drop_succ_cons, List.drop_zero, List.take_succ_cons, List.take_zero] at f1
   obtain ⟨a1, e1, w1⟩ := typed_string Tryz.underlying9 f1
   obtain rfl : c1 = _ := by simpa using e1
   have f2 := hf _ (List.mem_iff_getElem?.2 ⟨2, rfl⟩)
   simp only [hI, List.drop_succ_cons, List.drop_zero, List.take_succ_cons, List.take_zero] at f2
   obtain ⟨a2, e2, w2⟩ := typed_int Tryz.underlying3 f2
   obtain rfl : c2 = _ := by simpa using e2
   exact ⟨⟨a0, a1, a2⟩, rfl, by simp only [ReceiptD.Ok]; simp only [and_assoc] at *; simp [*]⟩
theorem HeadD.typed {w : World} {n : Nat} {cs : List Value} (h : Typed Tryz.prog w n 39 cs) : ∃ d : HeadD, cs = d.cells ∧ d.Ok := by
 obtain ⟨hl, m, hf⟩ := typed_struct Tryz.underlying39 h
 have hC : Tryz.prog.cellsOf 39 = 5 := by kernel_rfl
 have hI : Tryz.prog.cellsOf 3 = 1 := by kernel_rfl
 have hS : Tryz.prog.cellsOf 9 = 1 := by kernel_rfl
 rw [hC] at hl
 match cs, hl with
 | [c0, c1, c2, c3, c4], _ =>
   have f0 := hf _ (List.mem_iff_getElem?.2 ⟨0, rfl⟩)
   simp only [hI, List.drop_zero, List.take_succ_cons, List.take_zero] at f0
   obtain ⟨a0, e0, w0⟩ := typed_int Tryz.underlying3 f0
   obtain rfl : c0 = _ := by simpa using e0
   have f1 := hf _ (List.mem_iff_getElem?.2 ⟨1, rfl⟩)
   simp only [hI, List.drop_succ_cons, List.drop_zero, List.take_succ_cons, List.take_zero] at f1
   obtain ⟨a1, e1, w1⟩ := typed_int Tryz.underlying3 f1
   obtain rfl : c1 = _ := by simpa using e1
   have f2 := hf _ (List.mem_iff_getElem?.2 ⟨2, rfl⟩)
   simp only [hS, List.drop_succ_cons, List.drop_zero, List.take_succ_cons, List.take_zero] at f2
   obtain ⟨a2, e2, w2⟩ := typed_string Tryz.underlying9 f2
   obtain rfl : c2 = _ := by simpa using e2
   have f3 := hf _ (List.mem_iff_getElem?.2 ⟨3, rfl⟩)
   simp only [hI, List.drop_succ_cons, List.drop_zero, List.take_succ_cons, List.take_zero] at f3
   obtain ⟨a3, e3, w3⟩ := typed_int Tryz.underlying3 f3
   obtain rfl : c3 = _ := by simpa using e3
   have f4 := hf _ (List.mem_iff_getElem?.2 ⟨4, rfl⟩)
   simp only [hS, List.drop_succ_cons, List.drop_zero, List.take_succ_cons, List.take_zero] at f4
   obtain ⟨a4, e4, w4⟩ := typed_string Tryz.underlying9 f4
   obtain rfl : c4 = _ := by simpa using e4
   exact ⟨⟨a0, a1, a2, a3, a4⟩, rfl, by simp only [HeadD.Ok]; simp only [and_assoc] at *; simp [*]⟩
end Go.Proofs.YtlgdghpnfclgpaaGreat
