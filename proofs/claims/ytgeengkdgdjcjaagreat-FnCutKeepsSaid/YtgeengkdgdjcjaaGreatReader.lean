/-
  Name; Reader: No condition.
-/
import Derived.Test.YtgeengkdgdjcjaaGreatProg
import Derived.Test.YtgeengkdgdjcjaaGreatMem
import Derived.IntWalk
import Derived.Laws.IdiomStrings
import Derived.Laws.BitsAllLaws
import Derived.Laws.BitsLemmas
namespace Go.Proofs.YtgeengkdgdjcjaaGreat
set_option maxHeartbeats 1000000
set_option linter.unusedSimpArgs false
open Go.RowKit
set_option linter.unusedVariables false
def nameByte (c : UInt8) : Bool := decide (97 ≤ (c.toNat : Int) ∧ (c.toNat : Int) ≤ 122 ∨ 48 ≤ (c.toNat : Int) ∧ (c.toNat : Int) ≤ 57 ∨ (c.toNat : Int) = 45)
def nameOk (s : ByteArray) : Bool := inR s.size 1 20 && s.data.toList.all nameByte
def AllInv (p : UInt8 → Bool) (s : ByteArray) (fin : Bool) (k : Nat) : Prop := (s.data.toList.drop k).all p = fin
theorem AllInv.done {p : UInt8 → Bool} {s : ByteArray} {fin : Bool} {k : Nat} (h : AllInv p s fin k) (hk : s.size ≤ k) : fin = true := by
 unfold AllInv at h
 rw [List.drop_eq_nil_of_le (by simpa using hk)] at h
 simpa using h.symm
theorem AllInv.step {p : UInt8 → Bool} {s : ByteArray} {fin : Bool} {k : Nat} (h : AllInv p s fin k) (hk : k < s.size) : (p s[k] = false → fin = false) ∧ (p s[k] = true → AllInv p s fin (k + 1)) := by
 unfold AllInv at h
 rw [List.drop_eq_getElem_cons (by simpa using hk)] at h
 have e : s.data.toList[k]'(by simpa using hk) = s[k] := rfl
 rw [e] at h
 simp only [List.all_cons] at h
 exact ⟨fun e => by rw [e] at h; simpa using h.symm, fun e => by rw [e] at h; simpa [AllInv] using h⟩
theorem ret_bool {a b : Bool} (h : a = b) : Ending.returned (.bool a) = .returned (.bool b) := by rw [h]
theorem Ext.drewN {W w : World} (h : Ext W w) (n : Nat) : Ext W (w.drewN n) := ⟨h.os, h.tape, h.output, h.size, h.block⟩
theorem specNameOk_any (s : ByteArray) (w : World) (hs : s.size ≤ maxLen) :
 Calls Tryz.prog 167 #[.string s] w fun e w' => e = .returned (.bool (nameOk s)) ∧ w = w' := by
 unfold maxLen at hs
 cases hin : inR s.size 1 20
 · have Hp := hU (show nameOk s = false by simp [nameOk, hin])
   go_enter Tryz.func167, Tryz.ntmps167
   go_wp2_with (go_at_call 116; refine (l01In_any _ _ _ _).mono ?_; rintro e w' ⟨rfl, rfl⟩)
   go_ret
   exact ⟨ret_bool Hp.out.symm, rfl⟩
 · obtain ⟨fin, hfin⟩ : ∃ fin, fin = nameOk s := ⟨_, rfl⟩
   have Hi : AllInv nameByte s fin 0 := by rw [hfin]; simp [AllInv, nameOk, hin]
   rw [← hfin]; clear hfin
   go_enter Tryz.func167, Tryz.ntmps167
   go_wp2_with (go_at_call 116; refine (l01In_any _ _ _ _).mono ?_; rintro e w' ⟨rfl, rfl⟩)
   go_loop [3] (fun i => ∃ k : Nat, k ≤ s.size ∧ i = .int .i64 k ∧ AllInv nameByte s fin k) (fun i => s.size - (intOf i).toNat)
   case atStart => exact ⟨0, Nat.zero_le _, rfl, Hi⟩
   case round =>
    obtain ⟨k, hk, rfl, hi⟩ := hrel
    clear Hi
    by_cases hlt : k < s.size
    · obtain ⟨s1, s2⟩ := hi.step hlt
      clear hi
      have S1 := hU s1; have S2 := hU s2; clear s1 s2
      have h7 : (s[k].toNat : Int) < 45 ∨ (45 ≤ (s[k].toNat : Int) ∧ (s[k].toNat : Int) ≤ 45) ∨ (46 ≤ (s[k].toNat : Int) ∧ (s[k].toNat : Int) ≤ 47) ∨ (48 ≤ (s[k].toNat : Int) ∧ (s[k].toNat : Int) ≤ 57) ∨ (58 ≤ (s[k].toNat : Int) ∧ (s[k].toNat : Int) ≤ 96) ∨ (97 ≤ (s[k].toNat : Int) ∧ (s[k].toNat : Int) ≤ 122) ∨ 122 < (s[k].toNat : Int) := by omega
      rcases h7 with h | ⟨h, h'⟩ | ⟨h, h'⟩ | ⟨h, h'⟩ | ⟨h, h'⟩ | ⟨h, h'⟩ | h
      case inr.inl =>
       have E := hU (S2.out (by simp only [nameByte, decide_eq_true_eq]; omega))
       have hd : ((s[k].toNat : Int) == 45) = true := by rw [beq_iff_eq]; omega
       go_wp2_with fail
       go_round
       case rel => exact ⟨k + 1, by omega, by go_num, E.out⟩
       case measure => simp [intOf]; omega
      case inr.inr.inr.inl | inr.inr.inr.inr.inr.inl =>
       have E := hU (S2.out (by simp only [nameByte, decide_eq_true_eq]; omega))
       go_wp2_with fail
       go_round
       case rel => exact ⟨k + 1, by omega, by go_num, E.out⟩
       case measure => simp [intOf]; omega
      case inr.inr.inr.inr.inr.inr =>
       have E := hU (S1.out (by simp only [nameByte, decide_eq_false_iff_not]; omega))
       have hd : ((s[k].toNat : Int) == 45) = false := by rw [beq_eq_false_iff_ne]; omega
       have d1 : decide ((s[k].toNat : Int) ≤ 122) = false := by rw [decide_eq_false_iff_not]; omega
       have d2 : decide ((s[k].toNat : Int) ≤ 57) = false := by rw [decide_eq_false_iff_not]; omega
       go_wp2_with fail
       go_ret
       exact ⟨ret_bool E.out.symm, rfl⟩
      case inr.inr.inr.inr.inl =>
       have E := hU (S1.out (by simp only [nameByte, decide_eq_false_iff_not]; omega))
       have hd : ((s[k].toNat : Int) == 45) = false := by rw [beq_eq_false_iff_ne]; omega
       have d2 : decide ((s[k].toNat : Int) ≤ 57) = false := by rw [decide_eq_false_iff_not]; omega
       go_wp2_with fail
       go_ret
       exact ⟨ret_bool E.out.symm, rfl⟩
      all_goals
       have E := hU (S1.out (by simp only [nameByte, decide_eq_false_iff_not]; omega))
       have hd : ((s[k].toNat : Int) == 45) = false := by rw [beq_eq_false_iff_ne]; omega
       go_wp2_with fail
       go_ret
       exact ⟨ret_bool E.out.symm, rfl⟩
    · have E := hU (hi.done (by omega))
      clear hi
      go_wp2_with fail
      go_ret
      exact ⟨ret_bool E.out.symm, rfl⟩
theorem NameOk_any (s : ByteArray) (w : World) (hs : s.size ≤ maxLen) :
 Calls Tryz.prog 195 #[.string s] w fun e w' => e = .returned (.bool (nameOk s)) ∧ w = w' := by
 unfold maxLen at hs
 obtain ⟨fin, hfin⟩ : ∃ fin, fin = s.data.toList.all nameByte := ⟨_, rfl⟩
 have Hi : AllInv nameByte s fin 0 := by rw [hfin]; simp [AllInv]
 have Hf : Hid (nameOk s = (inR s.size 1 20 && fin)) := by rw [hfin]; exact hU rfl
 clear hfin
 go_enter Tryz.func195, Tryz.ntmps195
 go_wp2_with fail
 go_loop [3] (fun i => ∃ k : Nat, k ≤ s.size ∧ i = .int .i64 k ∧ AllInv nameByte s fin k) (fun i => s.size - (intOf i).toNat)
 case atStart => exact ⟨0, Nat.zero_le _, rfl, Hi⟩
 case round =>
  obtain ⟨k, hk, rfl, hi⟩ := hrel
  clear Hi
  by_cases hlt : k < s.size
  · obtain ⟨s1, s2⟩ := hi.step hlt
    clear hi
    have S1 := hU s1; have S2 := hU s2; clear s1 s2
    have h7 : (s[k].toNat : Int) < 45 ∨ (45 ≤ (s[k].toNat : Int) ∧ (s[k].toNat : Int) ≤ 45) ∨ (46 ≤ (s[k].toNat : Int) ∧ (s[k].toNat : Int) ≤ 47) ∨ (48 ≤ (s[k].toNat : Int) ∧ (s[k].toNat : Int) ≤ 57) ∨ (58 ≤ (s[k].toNat : Int) ∧ (s[k].toNat : Int) ≤ 96) ∨ (97 ≤ (s[k].toNat : Int) ∧ (s[k].toNat : Int) ≤ 122) ∨ 122 < (s[k].toNat : Int) := by omega
    rcases h7 with h | ⟨h, h'⟩ | ⟨h, h'⟩ | ⟨h, h'⟩ | ⟨h, h'⟩ | ⟨h, h'⟩ | h
    case inr.inl =>
     have E := hU (S2.out (by simp only [nameByte, decide_eq_true_eq]; omega))
     have hd : ((s[k].toNat : Int) == 45) = true := by rw [beq_iff_eq]; omega
     go_wp2_with fail
     go_round
     case rel => exact ⟨k + 1, by omega, by go_num, E.out⟩
     case measure => simp [intOf]; omega
    case inr.inr.inr.inl | inr.inr.inr.inr.inr.inl =>
     have E := hU (S2.out (by simp only [nameByte, decide_eq_true_eq]; omega))
     go_wp2_with fail
     go_round
     case rel => exact ⟨k + 1, by omega, by go_num, E.out⟩
     case measure => simp [intOf]; omega
    case inr.inr.inr.inr.inr.inr =>
     have E := hU (S1.out (by simp only [nameByte, decide_eq_false_iff_not]; omega))
     have hd : ((s[k].toNat : Int) == 45) = false := by rw [beq_eq_false_iff_ne]; omega
     have d1 : decide ((s[k].toNat : Int) ≤ 122) = false := by rw [decide_eq_false_iff_not]; omega
     have d2 : decide ((s[k].toNat : Int) ≤ 57) = false := by rw [decide_eq_false_iff_not]; omega
     go_wp2_with fail
     go_ret
     exact ⟨ret_bool (by rw [Hf.out, E.out, Bool.and_false]), rfl⟩
    case inr.inr.inr.inr.inl =>
     have E := hU (S1.out (by simp only [nameByte, decide_eq_false_iff_not]; omega))
     have hd : ((s[k].toNat : Int) == 45) = false := by rw [beq_eq_false_iff_ne]; omega
     have d2 : decide ((s[k].toNat : Int) ≤ 57) = false := by rw [decide_eq_false_iff_not]; omega
     go_wp2_with fail
     go_ret
     exact ⟨ret_bool (by rw [Hf.out, E.out, Bool.and_false]), rfl⟩
    all_goals
     have E := hU (S1.out (by simp only [nameByte, decide_eq_false_iff_not]; omega))
     have hd : ((s[k].toNat : Int) == 45) = false := by rw [beq_eq_false_iff_ne]; omega
     go_wp2_with fail
     go_ret
     exact ⟨ret_bool (by rw [Hf.out, E.out, Bool.and_false]), rfl⟩
  · have E := hU (hi.done (by omega))
    clear hi
    go_wp2_with fail
    refine (inRange_any _ _ _ _).mono ?_
    rintro e w1 ⟨rfl, rfl⟩
    go_wp2_with fail
    go_ret
    exact ⟨ret_bool (by rw [Hf.out, E.out, Bool.and_true]), rfl⟩
set_option maxRecDepth 100000
theorem ret_str {a b : ByteArray} (h : a = b) : Ending.returned (.string a) = .returned (.string b) := by rw [h]
abbrev ExtBut (g : Nat) (W w : World) : Prop := W.grownBy w (some g)
theorem ExtBut.refl (g : Nat) (w : World) : ExtBut g w w := ⟨rfl, rfl, rfl, Nat.le_refl _, fun _ _ _ => rfl⟩
theorem ExtBut.next {g : Nat} {a b c : World} (h : ExtBut g a b) (k : ExtBut g b c) : ExtBut g a c :=
 ⟨k.os.trans h.os, k.tape.trans h.tape, k.output.trans h.output, Nat.le_trans h.size k.size, fun i hi hne => (k.block i (Nat.lt_of_lt_of_le hi h.size) hne).trans (h.block i hi hne)⟩
theorem ExtBut.of_ext {g : Nat} {a b : World} (h : Ext a b) : ExtBut g a b := ⟨h.os, h.tape, h.output, h.size, fun i hi _ => h.block i hi⟩
theorem ExtBut.drewN {g : Nat} {a b : World} (h : ExtBut g a b) (n : Nat) : ExtBut g a (b.drewN n) := ⟨h.os, h.tape, h.output, h.size, h.block⟩
theorem ExtBut.set_ {g : Nat} {a w : World} (h : ExtBut g a w) (i : Nat) (u : Value) : ExtBut g a (w.setCell ⟨g, i, none⟩ u) :=
 ⟨h.os, h.tape, h.output, by simpa [World.setCell] using h.size, fun k hk hne => (Below.heap_setCell w ⟨g, i, none⟩ u k (by rintro rfl; exact hne rfl)).trans (h.block k hk hne)⟩
theorem Ext.nextBut {W w1 w2 : World} {g : Nat} (h : Ext W w1) (hg : W.heap.size ≤ g) (k : ExtBut g w1 w2) : Ext W w2 :=
 ⟨k.os.trans h.os, k.tape.trans h.tape, k.output.trans h.output, Nat.le_trans h.size k.size, fun i hi => (k.block i (Nat.lt_of_lt_of_le hi h.size) (by simp; omega)).trans (h.block i hi)⟩
theorem Blk.extBut {w w' : World} {g g' : Nat} {t : TypeId} {cs : Array Value} (h : Blk w g' t cs) (k : ExtBut g w w') (hne : g' ≠ g) : Blk w' g' t cs := (k.block g' h.lt (by simp; omega)).trans h
structure Rd where
 pos : Nat
 bad : Bool
def rdFails (T : ByteArray) (r : Rd) (n : Nat) : Bool := r.bad || decide ((T.size : Int) - (r.pos : Int) < (n : Int))
def rdTake (T : ByteArray) (r : Rd) (n : Nat) : ByteArray := if rdFails T r n then ⟨#[]⟩ else T.extract r.pos (r.pos + n)
def rdNext (T : ByteArray) (r : Rd) (n : Nat) : Rd := if rdFails T r n then ⟨r.pos, true⟩ else ⟨r.pos + n, false⟩
def rdCells (T : ByteArray) (r : Rd) : Array Value := #[.string T, .int .i64 (r.pos : Int), .bool r.bad]
theorem bytes_any (g : Nat) (T : ByteArray) (r : Rd) (n : Nat) (w : World) (hB : Blk w g 248 (rdCells T r)) (hp : r.pos ≤ T.size) (hT : T.size ≤ 1099511627776) (hn : n ≤ 1099511627776) :
 Calls Tryz.prog 192 #[.pointer (some ⟨g, 0, none⟩), .int .i64 (n : Int)] w fun e w' => e = .returned (.string (rdTake T r n)) ∧ Blk w' g 248 (rdCells T (rdNext T r n)) ∧ ExtBut g w w' := by
 obtain ⟨p, b⟩ := r
 simp only [rdCells] at hB
 obtain ⟨hc, hf⟩ := hB.rules
 have c0 : w.cell? ⟨g, 0, none⟩ = some (.string T) := hc 0
 have c1 : w.cell? ⟨g, 1, none⟩ = some (.int .i64 (p : Int)) := hc 1
 have c2 : w.cell? ⟨g, 2, none⟩ = some (.bool b) := hc 2
 clear hc
 simp only at hp
 cases b
 · by_cases h : (T.size : Int) - (p : Int) < (n : Int)
   · have hf1 : rdFails T ⟨p, false⟩ n = true := by simp [rdFails]; omega
     have Ht := hU (show rdTake T ⟨p, false⟩ n = ⟨#[]⟩ by simp [rdTake, hf1])
     have Hn := hU (show rdNext T ⟨p, false⟩ n = ⟨p, true⟩ by simp [rdNext, hf1])
     clear hf1
     go_enter Tryz.func192, Tryz.ntmps192
     go_wp2_with fail
     go_quiet (fail)
     go_wp2_with fail
     go_ret
     exact ⟨ret_str Ht.out.symm, by rw [Hn.out]; exact (hB.drewN nq).set_ 2 (.bool true), ((ExtBut.refl g w).drewN nq).set_ 2 _⟩
   · have hf1 : rdFails T ⟨p, false⟩ n = false := by simp [rdFails]; omega
     have Ht := hU (show rdTake T ⟨p, false⟩ n = T.extract p (p + n) by simp [rdTake, hf1])
     have Hn := hU (show rdNext T ⟨p, false⟩ n = ⟨p + n, false⟩ by simp [rdNext, hf1])
     have hd : decide ((T.size : Int) - (p : Int) < (n : Int)) = false := by rw [decide_eq_false_iff_not]; exact h
     clear hf1
     go_enter Tryz.func192, Tryz.ntmps192
     go_wp2_with fail
     go_quiet (fail)
     go_wp2_with fail
     have B1 := (hB.drewN nq).set_ 1 (.int .i64 ((p + n : Nat) : Int))
     have x1 := ((ExtBut.refl g w).drewN nq).set_ 1 (.int .i64 ((p + n : Nat) : Int))
     rw [show ((p + n : Nat) : Int) = (p : Int) + (n : Int) from by omega] at B1 x1
     clear c0 c1 c2 hB
     generalize (w.drewN nq).setCell ⟨g, 1, none⟩ (.int .i64 ((p : Int) + (n : Int))) = w2 at *
     obtain ⟨hc, hf⟩ := B1.rules
     have c0 : w2.cell? ⟨g, 0, none⟩ = some (.string T) := hc 0
     have c1 : w2.cell? ⟨g, 1, none⟩ = some (.int .i64 ((p : Int) + (n : Int))) := hc 1
     clear hc
     have hw : IntKind.i64.wrap (p : Int) = (p : Int) := IntWalk.i64_in _ (by omega)
     have hk1 : (p : Int) + (n : Int) ≤ (T.size : Int) := by omega
     have hk2 : p + n ≤ T.size := by omega
     go_quiet (fail)
     go_wp2_with fail
     go_ret
     exact ⟨ret_str Ht.out.symm, by rw [Hn.out]; exact B1.drewN _, x1.drewN _⟩
 · have hf1 : rdFails T ⟨p, true⟩ n = true := by simp [rdFails]
   have Ht := hU (show rdTake T ⟨p, true⟩ n = ⟨#[]⟩ by simp [rdTake, hf1])
   have Hn := hU (show rdNext T ⟨p, true⟩ n = ⟨p, true⟩ by simp [rdNext, hf1])
   clear hf1
   go_enter Tryz.func192, Tryz.ntmps192
   go_wp2_with fail
   go_quiet (fail)
   go_wp2_with fail
   go_ret
   exact ⟨ret_str Ht.out.symm, by rw [Hn.out]; exact (hB.drewN nq).set_ 2 (.bool true), ((ExtBut.refl g w).drewN nq).set_ 2 _⟩
def beNum (b : ByteArray) : Nat := b.data.toList.foldl (fun a c => 256 * a + c.toNat) 0
theorem beNum_lt : ∀ (l : List UInt8) (a : Nat), l.foldl (fun a c => 256 * a + c.toNat) a < (a + 1) * 256 ^ l.length
 | [], a => by simp
 | c :: l, a => by
   have h := beNum_lt l (256 * a + c.toNat)
   have hc : c.toNat < 256 := c.toNat_lt
   have h2 : (256 * a + c.toNat + 1) * 256 ^ l.length ≤ ((a + 1) * 256) * 256 ^ l.length := Nat.mul_le_mul_right _ (by omega)
   rw [List.length_cons, Nat.pow_succ]
   simp only [List.foldl_cons]
   calc _ < _ := h
    _ ≤ _ := h2
    _ = _ := by rw [Nat.mul_assoc, Nat.mul_comm 256]
def NumInv (b : ByteArray) (k : Nat) (v : Nat) : Prop := v = (b.data.toList.take k).foldl (fun a c => 256 * a + c.toNat) 0
theorem NumInv.start (b : ByteArray) : NumInv b 0 0 := by simp [NumInv]
theorem NumInv.step {b : ByteArray} {k v : Nat} (h : NumInv b k v) (hk : k < b.size) : NumInv b (k + 1) (256 * v + b[k].toNat) := by
 unfold NumInv at *
 rw [List.take_succ_eq_append_getElem (by simpa using hk), List.foldl_append, ← h]
 rfl
theorem NumInv.done {b : ByteArray} {k v : Nat} (h : NumInv b k v) (hk : b.size ≤ k) : v = beNum b := by
 unfold NumInv at h
 rw [List.take_of_length_le (by simpa using hk)] at h
 exact h
theorem NumInv.lt {b : ByteArray} {k v : Nat} (h : NumInv b k v) (hk : k ≤ 4) : v < 4294967296 := by
 rw [h]
 have := beNum_lt (b.data.toList.take k) 0
 have h2 : (b.data.toList.take k).length ≤ 4 := by rw [List.length_take]; omega
 have h3 : 256 ^ (b.data.toList.take k).length ≤ 256 ^ 4 := Nat.pow_le_pow_right (by decide) h2
 simp only [Nat.zero_add, Nat.one_mul] at this
 omega
theorem rdTake_size (T : ByteArray) (r : Rd) (n : Nat) : (rdTake T r n).size ≤ n := by
 unfold rdTake
 split
 · exact Nat.zero_le _
 · rw [ByteArray.size_extract]; omega
theorem ofInt_i64 (a : Nat) (ha : a < 9223372036854775808) : (BitVec.ofInt 64 (a : Int)).toNat = a := by
 rw [BitVec.ofInt_natCast, BitVec.toNat_ofNat]; exact Nat.mod_eq_of_lt (by omega)
theorem i64_or_nat (a b : Nat) (ha : a < 9223372036854775808) (hb : b < 9223372036854775808) : bits .or .i64 (a : Int) (b : Int) = ((a ||| b : Nat) : Int) := by
 have hx : a ||| b < 2 ^ 63 := Nat.or_lt_two_pow (by omega) (by omega)
 show IntKind.i64.wrap ((BitVec.ofInt 64 (a : Int) ||| BitVec.ofInt 64 (b : Int)).toNat : Int) = _
 rw [BitVec.toNat_or, ofInt_i64 a ha, ofInt_i64 b hb, IntKind.wrap_i64]
 omega
theorem or_byte (q c : Nat) (hq : q < 4294967296) (hc : c < 256) : bits .or .i64 ((q : Int) * 256) (c : Int) = ((256 * q + c : Nat) : Int) := by
 have h : 256 * q + c = 256 * q ||| c := Nat.two_pow_add_eq_or_of_lt (i := 8) (by omega) q
 rw [h, ← i64_or_nat _ _ (by omega) (by omega), show ((256 * q : Nat) : Int) = (q : Int) * 256 by omega]
theorem to_bytes {P : Program} {src dst e : TypeId} (s : ByteArray) (hs : P.underlying src = some .string) (hd : P.underlying dst = some (.slice e)) (he : P.underlying e = some (.int .u8)) (w : World) :
 ∃ (cap : Nat) (w1 : World), (convert src dst (.string s)).run P w = .ok (.slice (some ⟨w.heap.size, 0, none⟩) s.size cap) w1 ∧ Ext w w1 ∧ ∀ j (hj : j < s.size), w1.cell? ⟨w.heap.size, j, none⟩ = some (.int .u8 (s[j].toNat : Int)) := by
 refine ⟨_, _, run_bytes_of_string w src dst e s hs hd he, Below.alloc (Below.refl _ _).drew (Nat.le_refl _) _, fun j hj => ?_⟩
 have h := World.cell?_alloc_mark w.drew (bytesRow s (grownCap w s.size 0 e)) e ((bytesRow s (grownCap w s.size 0 e)).size, (bytesRow s (grownCap w s.size 0 e)).size + 1) j
 exact h.trans (bytesRow_at s _ j hj)
theorem number_any (g : Nat) (T : ByteArray) (r : Rd) (n : Nat) (w : World) (hB : Blk w g 248 (rdCells T r)) (hp : r.pos ≤ T.size) (hT : T.size ≤ 1099511627776) (hn : n ≤ 4) :
 Calls Tryz.prog 191 #[.pointer (some ⟨g, 0, none⟩), .int .i64 (n : Int)] w fun e w' => e = .returned (.int .i64 (beNum (rdTake T r n) : Int)) ∧ Blk w' g 248 (rdCells T (rdNext T r n)) ∧ ExtBut g w w' := by
 have hsz := rdTake_size T r n
 go_enter Tryz.func191, Tryz.ntmps191
 go_wp2_with fail
 refine (bytes_any g T r n w hB hp hT (by omega)).mono ?_
 rintro e w1 ⟨rfl, hB1, hx⟩
 obtain ⟨b, hb⟩ : ∃ b, b = rdTake T r n := ⟨_, rfl⟩
 rw [← hb] at hsz
 rw [← hb]
 have Hb := hU hb
 clear hb hB
 have Hi := NumInv.start b
 obtain ⟨cap, w2, hrun, he2, hcell⟩ := to_bytes (P := Tryz.prog) b Tryz.underlying9 Tryz.underlying22 Tryz.underlying5 w1
 have hB2 := hB1.ext he2
 have hx2 := hx.next (ExtBut.of_ext he2)
 have Hc := hU hcell
 clear hcell hB1 hx he2
 go_wp2_with fail
 go_loop [5, 13] (fun v i => ∃ (k q : Nat), k ≤ b.size ∧ i = .int .i64 k ∧ v = .int .i64 q ∧ q < 4294967296 ∧ NumInv b k q) (fun _ i => b.size - (intOf i).toNat)
 case atStart => exact ⟨0, 0, Nat.zero_le _, rfl, rfl, by omega, Hi⟩
 case round =>
  obtain ⟨k, q, hk, rfl, rfl, hq, hi⟩ := hrel
  clear Hi
  by_cases hlt : k < b.size
  · have E := hi.step hlt
    have h2 := E.lt (by omega)
    have hE := hU E
    clear hi E
    have hcc : (b[k].toNat : Int) ≤ 255 := by have := b[k].toNat_lt; omega
    have hck := Hc.out k hlt
    go_wp2_with fail
    go_round
    case rel => exact ⟨k + 1, 256 * q + b[k].toNat, by omega, by go_num, by rw [or_byte _ _ hq (by omega)], h2, hE.out⟩
    case measure => simp [intOf]; omega
  · have E := hU (hi.done (by omega))
    clear hi
    go_wp2_with fail
    go_ret
    exact ⟨ret_int (by rw [E.out, Hb.out]), hB2, hx2⟩
theorem rdNext_pos (T : ByteArray) (r : Rd) (n : Nat) (h : r.pos ≤ T.size) : (rdNext T r n).pos ≤ T.size := by
 unfold rdNext
 split
 · exact h
 · rename_i hf
   simp only [rdFails, Bool.or_eq_true, decide_eq_true_eq, not_or] at hf
   show r.pos + n ≤ T.size
   omega
theorem beNum_le (b : ByteArray) (h : b.size ≤ 4) : beNum b < 4294967296 := by
 have := (show NumInv b b.size (beNum b) by unfold NumInv beNum; rw [List.take_of_length_le (by simp)]).lt h
 exact this
def rdShort (T : ByteArray) (r : Rd) (n : Nat) : ByteArray := rdTake T (rdNext T r n) (beNum (rdTake T r n))
def rdShortNext (T : ByteArray) (r : Rd) (n : Nat) : Rd := rdNext T (rdNext T r n) (beNum (rdTake T r n))
theorem short_any (g : Nat) (T : ByteArray) (r : Rd) (n : Nat) (w : World) (hB : Blk w g 248 (rdCells T r)) (hp : r.pos ≤ T.size) (hT : T.size ≤ 1099511627776) (hn : n ≤ 4) :
 Calls Tryz.prog 193 #[.pointer (some ⟨g, 0, none⟩), .int .i64 (n : Int)] w fun e w' => e = .returned (.string (rdShort T r n)) ∧ Blk w' g 248 (rdCells T (rdShortNext T r n)) ∧ ExtBut g w w' := by
 have hq := beNum_le (rdTake T r n) (Nat.le_trans (rdTake_size T r n) hn)
 go_enter Tryz.func193, Tryz.ntmps193
 go_wp2_with fail
 refine (number_any g T r n w hB hp hT hn).mono ?_
 rintro e w1 ⟨rfl, hB1, hx⟩
 go_wp2_with fail
 refine (bytes_any g T (rdNext T r n) (beNum (rdTake T r n)) w1 hB1 (rdNext_pos T r n hp) hT (by omega)).mono ?_
 rintro e w2 ⟨rfl, hB2, hx2⟩
 go_wp2_with fail
 go_ret
 exact ⟨rfl, hB2, hx.next hx2⟩
def rdDone (T : ByteArray) (r : Rd) : Bool := !r.bad && decide (r.pos = T.size)
theorem done_any (g : Nat) (T : ByteArray) (r : Rd) (w : World) (hB : Blk w g 248 (rdCells T r)) :
 Calls Tryz.prog 194 #[.pointer (some ⟨g, 0, none⟩)] w fun e w' => e = .returned (.bool (rdDone T r)) ∧ ∃ m, w' = w.drewN m := by
 obtain ⟨p, b⟩ := r
 simp only [rdCells] at hB
 obtain ⟨hc, hf⟩ := hB.rules
 have c0 : w.cell? ⟨g, 0, none⟩ = some (.string T) := hc 0
 have c1 : w.cell? ⟨g, 1, none⟩ = some (.int .i64 (p : Int)) := hc 1
 have c2 : w.cell? ⟨g, 2, none⟩ = some (.bool b) := hc 2
 clear hc
 cases b
 · have e1 : rdDone T ⟨p, false⟩ = ((p : Int) == (T.size : Int)) := by simp only [rdDone]; rw [Bool.eq_iff_iff]; simp; omega
   have E1 := hU e1; clear e1
   go_enter Tryz.func194, Tryz.ntmps194
   go_wp2_with fail
   go_quiet (fail)
   go_wp2_with fail
   go_ret
   exact ⟨ret_bool E1.out.symm, nq, rfl⟩
 · have E1 := hU (show rdDone T ⟨p, true⟩ = false by simp [rdDone])
   go_enter Tryz.func194, Tryz.ntmps194
   go_wp2_with fail
   go_quiet (fail)
   go_wp2_with fail
   go_ret
   exact ⟨ret_bool E1.out.symm, nq, rfl⟩
end Go.Proofs.YtgeengkdgdjcjaaGreat
