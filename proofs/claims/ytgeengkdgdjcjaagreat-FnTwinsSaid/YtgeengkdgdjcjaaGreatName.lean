/-
  Name: No condition.
-/
import Derived.Test.YtgeengkdgdjcjaaGreatProg
import Derived.Test.YtgeengkdgdjcjaaGreatArgs
namespace Go.Proofs.YtgeengkdgdjcjaaGreat
set_option maxHeartbeats 1000000
set_option linter.unusedSimpArgs false
open Go.RowKit
set_option linter.unusedVariables false
def nameByte (c : UInt8) : Bool := decide (97 ≤ (c.toNat : Int) ∧ (c.toNat : Int) ≤ 122 ∨ 48 ≤ (c.toNat : Int) ∧ (c.toNat : Int) ≤ 57 ∨ (c.toNat : Int) = 45)
def nameOk (s : ByteArray) : Bool := inR s.size 1 20 && s.data.toList.all nameByte
def AllInv (p : UInt8 → Bool) (s : ByteArray) (fin : Bool) (k : Nat) : Prop := (s.data.toList.drop k).all p = fin
theorem AllInv.done {p : UInt8 → Bool} {s : ByteArray} {fin : Bool} {k : Nat} (h : AllInv p s fin k) (hk : s.size ≤ k) : fin = true := by
 unfold AllInv at h
 rw [List.drop_eq_nil_of_le (by simpa using hk)] at h
 simpa using h.symm
theorem AllInv.step {p : UInt8 → Bool} {s : ByteArray} {fin : Bool} {k : Nat} (h : AllInv p s fin k) (hk : k < s.size) : (p s[k] = false → fin = false) ∧ (p s[k] = true → AllInv p s fin (k + 1)) := by
 unfold AllInv at h
 rw [List.drop_eq_getElem_cons (by simpa using hk)] at h
 have e : s.data.toList[k]'(by simpa using hk) = s[k] := rfl
 rw [e] at h
 simp only [List.all_cons] at h
 exact ⟨fun e => by rw [e] at h; simpa using h.symm, fun e => by rw [e] at h; simpa [AllInv] using h⟩
theorem ret_bool {a b : Bool} (h : a = b) : Ending.returned (.bool a) = .returned (.bool b) := by rw [h]
theorem Ext.drewN {W w : World} (h : Ext W w) (n : Nat) : Ext W (w.drewN n) := ⟨h.os, h.tape, h.output, h.size, h.block⟩
theorem specNameOk_any (s : ByteArray) (w : World) (hs : s.size ≤ maxLen) :
 Calls Tryz.prog 167 #[.string s] w fun e w' => e = .returned (.bool (nameOk s)) ∧ w = w' := by
 unfold maxLen at hs
 cases hin : inR s.size 1 20
 · have Hp := hU (show nameOk s = false by simp [nameOk, hin])
   go_enter Tryz.func167, Tryz.ntmps167
   go_wp2_with (go_at_call 116; refine (l01In_any _ _ _ _).mono ?_; rintro e w' ⟨rfl, rfl⟩)
   go_ret
   exact ⟨ret_bool Hp.out.symm, rfl⟩
 · obtain ⟨fin, hfin⟩ : ∃ fin, fin = nameOk s := ⟨_, rfl⟩
   have Hi : AllInv nameByte s fin 0 := by rw [hfin]; simp [AllInv, nameOk, hin]
   rw [← hfin]; clear hfin
   go_enter Tryz.func167, Tryz.ntmps167
   go_wp2_with (go_at_call 116; refine (l01In_any _ _ _ _).mono ?_; rintro e w' ⟨rfl, rfl⟩)
   go_loop [3] (fun i => ∃ k : Nat, k ≤ s.size ∧ i = .int .i64 k ∧ AllInv nameByte s fin k) (fun i => s.size - (intOf i).toNat)
   case atStart => exact ⟨0, Nat.zero_le _, rfl, Hi⟩
   case round =>
    obtain ⟨k, hk, rfl, hi⟩ := hrel
    clear Hi
    by_cases hlt : k < s.size
    · obtain ⟨s1, s2⟩ := hi.step hlt
      clear hi
      have S1 := hU s1; have S2 := hU s2; clear s1 s2
      have h7 : (s[k].toNat : Int) < 45 ∨ (45 ≤ (s[k].toNat : Int) ∧ (s[k].toNat : Int) ≤ 45) ∨ (46 ≤ (s[k].toNat : Int) ∧ (s[k].toNat : Int) ≤ 47) ∨ (48 ≤ (s[k].toNat : Int) ∧ (s[k].toNat : Int) ≤ 57) ∨ (58 ≤ (s[k].toNat : Int) ∧ (s[k].toNat : Int) ≤ 96) ∨ (97 ≤ (s[k].toNat : Int) ∧ (s[k].toNat : Int) ≤ 122) ∨ 122 < (s[k].toNat : Int) := by omega
      rcases h7 with h | ⟨h, h'⟩ | ⟨h, h'⟩ | ⟨h, h'⟩ | ⟨h, h'⟩ | ⟨h, h'⟩ | h
      case inr.inl =>
       have E := hU (S2.out (by simp only [nameByte, decide_eq_true_eq]; omega))
       have hd : ((s[k].toNat : Int) == 45) = true := by rw [beq_iff_eq]; omega
       go_wp2_with fail
       go_round
       case rel => exact ⟨k + 1, by omega, by go_num, E.out⟩
       case measure => simp [intOf]; omega
      case inr.inr.inr.inl | inr.inr.inr.inr.inr.inl =>
       have E := hU (S2.out (by simp only [nameByte, decide_eq_true_eq]; omega))
       go_wp2_with fail
       go_round
       case rel => exact ⟨k + 1, by omega, by go_num, E.out⟩
       case measure => simp [intOf]; omega
      case inr.inr.inr.inr.inr.inr =>
       have E := hU (S1.out (by simp only [nameByte, decide_eq_false_iff_not]; omega))
       have hd : ((s[k].toNat : Int) == 45) = false := by rw [beq_eq_false_iff_ne]; omega
       have d1 : decide ((s[k].toNat : Int) ≤ 122) = false := by rw [decide_eq_false_iff_not]; omega
       have d2 : decide ((s[k].toNat : Int) ≤ 57) = false := by rw [decide_eq_false_iff_not]; omega
       go_wp2_with fail
       go_ret
       exact ⟨ret_bool E.out.symm, rfl⟩
      case inr.inr.inr.inr.inl =>
       have E := hU (S1.out (by simp only [nameByte, decide_eq_false_iff_not]; omega))
       have hd : ((s[k].toNat : Int) == 45) = false := by rw [beq_eq_false_iff_ne]; omega
       have d2 : decide ((s[k].toNat : Int) ≤ 57) = false := by rw [decide_eq_false_iff_not]; omega
       go_wp2_with fail
       go_ret
       exact ⟨ret_bool E.out.symm, rfl⟩
      all_goals
       have E := hU (S1.out (by simp only [nameByte, decide_eq_false_iff_not]; omega))
       have hd : ((s[k].toNat : Int) == 45) = false := by rw [beq_eq_false_iff_ne]; omega
       go_wp2_with fail
       go_ret
       exact ⟨ret_bool E.out.symm, rfl⟩
    · have E := hU (hi.done (by omega))
      clear hi
      go_wp2_with fail
      go_ret
      exact ⟨ret_bool E.out.symm, rfl⟩
theorem NameOk_any (s : ByteArray) (w : World) (hs : s.size ≤ maxLen) :
 Calls Tryz.prog 195 #[.string s] w fun e w' => e = .returned (.bool (nameOk s)) ∧ w = w' := by
 unfold maxLen at hs
 obtain ⟨fin, hfin⟩ : ∃ fin, fin = s.data.toList.all nameByte := ⟨_, rfl⟩
 have Hi : AllInv nameByte s fin 0 := by rw [hfin]; simp [AllInv]
 have Hf : Hid (nameOk s = (inR s.size 1 20 && fin)) := by rw [hfin]; exact hU rfl
 clear hfin
 go_enter Tryz.func195, Tryz.ntmps195
 go_wp2_with fail
 go_loop [3] (fun i => ∃ k : Nat, k ≤ s.size ∧ i = .int .i64 k ∧ AllInv nameByte s fin k) (fun i => s.size - (intOf i).toNat)
 case atStart => exact ⟨0, Nat.zero_le _, rfl, Hi⟩
 case round =>
  obtain ⟨k, hk, rfl, hi⟩ := hrel
  clear Hi
  by_cases hlt : k < s.size
  · obtain ⟨s1, s2⟩ := hi.step hlt
    clear hi
    have S1 := hU s1; have S2 := hU s2; clear s1 s2
    have h7 : (s[k].toNat : Int) < 45 ∨ (45 ≤ (s[k].toNat : Int) ∧ (s[k].toNat : Int) ≤ 45) ∨ (46 ≤ (s[k].toNat : Int) ∧ (s[k].toNat : Int) ≤ 47) ∨ (48 ≤ (s[k].toNat : Int) ∧ (s[k].toNat : Int) ≤ 57) ∨ (58 ≤ (s[k].toNat : Int) ∧ (s[k].toNat : Int) ≤ 96) ∨ (97 ≤ (s[k].toNat : Int) ∧ (s[k].toNat : Int) ≤ 122) ∨ 122 < (s[k].toNat : Int) := by omega
    rcases h7 with h | ⟨h, h'⟩ | ⟨h, h'⟩ | ⟨h, h'⟩ | ⟨h, h'⟩ | ⟨h, h'⟩ | h
    case inr.inl =>
     have E := hU (S2.out (by simp only [nameByte, decide_eq_true_eq]; omega))
     have hd : ((s[k].toNat : Int) == 45) = true := by rw [beq_iff_eq]; omega
     go_wp2_with fail
     go_round
     case rel => exact ⟨k + 1, by omega, by go_num, E.out⟩
     case measure => simp [intOf]; omega
    case inr.inr.inr.inl | inr.inr.inr.inr.inr.inl =>
     have E := hU (S2.out (by simp only [nameByte, decide_eq_true_eq]; omega))
     go_wp2_with fail
     go_round
     case rel => exact ⟨k + 1, by omega, by go_num, E.out⟩
     case measure => simp [intOf]; omega
    case inr.inr.inr.inr.inr.inr =>
     have E := hU (S1.out (by simp only [nameByte, decide_eq_false_iff_not]; omega))
     have hd : ((s[k].toNat : Int) == 45) = false := by rw [beq_eq_false_iff_ne]; omega
     have d1 : decide ((s[k].toNat : Int) ≤ 122) = false := by rw [decide_eq_false_iff_not]; omega
     have d2 : decide ((s[k].toNat : Int) ≤ 57) = false := by rw [decide_eq_false_iff_not]; omega
     go_wp2_with fail
     go_ret
     exact ⟨ret_bool (by rw [Hf.out, E.out, Bool.and_false]), rfl⟩
    case inr.inr.inr.inr.inl =>
     have E := hU (S1.out (by simp only [nameByte, decide_eq_false_iff_not]; omega))
     have hd : ((s[k].toNat : Int) == 45) = false := by rw [beq_eq_false_iff_ne]; omega
     have d2 : decide ((s[k].toNat : Int) ≤ 57) = false := by rw [decide_eq_false_iff_not]; omega
     go_wp2_with fail
     go_ret
     exact ⟨ret_bool (by rw [Hf.out, E.out, Bool.and_false]), rfl⟩
    all_goals
     have E := hU (S1.out (by simp only [nameByte, decide_eq_false_iff_not]; omega))
     have hd : ((s[k].toNat : Int) == 45) = false := by rw [beq_eq_false_iff_ne]; omega
     go_wp2_with fail
     go_ret
     exact ⟨ret_bool (by rw [Hf.out, E.out, Bool.and_false]), rfl⟩
  · have E := hU (hi.done (by omega))
    clear hi
    go_wp2_with fail
    refine (inRange_any _ _ _ _).mono ?_
    rintro e w1 ⟨rfl, rfl⟩
    go_wp2_with fail
    go_ret
    exact ⟨ret_bool (by rw [Hf.out, E.out, Bool.and_true]), rfl⟩
end Go.Proofs.YtgeengkdgdjcjaaGreat
