/-
  SpecDigest: No condition.
-/
import Derived.Test.YtgeengkdgdjcjaaSpecTop
namespace Go.Proofs.Ytgeengkdgdjcjaa
set_option maxHeartbeats 1000000
set_option maxRecDepth 100000
set_option linter.unusedSimpArgs false
open Go.RowKit
set_option linter.unusedVariables false
theorem StartOf_no (tag : Int) (w : World) (h : inR tag 0 255 = false) :
 Calls Try.prog 42 #[.int .i64 tag] w fun e w' => e = .returned (.tuple #[.slice (some ⟨w.heap.size, 0, none⟩) 0 0, .bool false]) ∧ Ext w w' := by
 have He := hU (Ext.new (Below.refl w.heap.size w) (.cells #[] 81))
 go_enter Try.func42, Try.ntmps42
 go_wp2_with (go_at_call 22; refine (l01In_any _ _ _ _).mono ?_; rintro e w' ⟨rfl, rfl⟩)
 go_ret2
 exact ⟨rfl, He.out⟩
theorem PadOf_no (n : Int) (w : World) (h : inR n 0 4000 = false) :
 Calls Try.prog 43 #[.int .i64 n] w fun e w' => e = .returned (.tuple #[.string ⟨#[]⟩, .bool false]) ∧ Ext w w' := by
 go_enter Try.func43, Try.ntmps43
 go_wp2_with (go_at_call 22; refine (l01In_any _ _ _ _).mono ?_; rintro e w' ⟨rfl, rfl⟩)
 go_ret2
 exact ⟨rfl, Below.refl _ _⟩
def StartRes (W w : World) (v : Value) (tag : Int) : Prop := inR tag 0 255 = true → OwnW W w v (startW tag)
theorem StartOf_all (tag : Int) (w : World) : Calls Try.prog 42 #[.int .i64 tag] w fun e w' => ∃ v, e = .returned (.tuple #[v, .bool (inR tag 0 255)]) ∧ StartRes w w' v tag ∧ Ext w w' := by
 cases h : inR tag 0 255
 · refine (StartOf_no tag w h).mono ?_
   rintro e w' ⟨rfl, he⟩
   exact ⟨_, rfl, (fun h' => by rw [h] at h'; cases h'), he⟩
 · refine (StartOf_any tag w h).mono ?_
   rintro e w' ⟨v, rfl, ho, he⟩
   exact ⟨v, rfl, fun _ => ho, he⟩
def padS (n : Nat) : ByteArray := if n ≤ 4000 then padT n else ⟨#[]⟩
theorem PadOf_all (n : Nat) (w : World) : Calls Try.prog 43 #[.int .i64 (n : Int)] w fun e w' => e = .returned (.tuple #[.string (padS n), .bool (decide (n ≤ 4000))]) ∧ Ext w w' := by
 by_cases h : n ≤ 4000
 · refine (PadOf_any n w h).mono ?_
   rintro e w' ⟨rfl, he⟩
   exact ⟨by rw [padS, if_pos h, decide_eq_true h], he⟩
 · refine (PadOf_no n w (by simp [inR]; omega)).mono ?_
   rintro e w' ⟨rfl, he⟩
   exact ⟨by rw [padS, if_neg h, decide_eq_false h], he⟩
theorem specDigest_any (width tag : Int) (T : ByteArray) (w : World) (hT : T.size ≤ maxLen) :
 Calls Try.prog 28 #[.int .i64 width, .int .i64 tag, .string T] w fun e w' => e = .returned (.tuple #[.string (digest width tag T), .bool (digestOk width tag T)]) ∧ Ext w w' := by
 unfold maxLen at hT
 cases hok : digestOk width tag T
 · have Ho := hU hok
   rw [digest_no hok]
   have h3 : ∃ b1 b2 b3, b1 = inR width 1 32 ∧ b2 = inR tag 0 255 ∧ b3 = decide (T.size ≤ 4000) ∧ (b1 && b2 && b3) = false := ⟨_, _, _, rfl, rfl, rfl, hok⟩
   obtain ⟨b1, b2, b3, e1, e2, e3, hb⟩ := h3
   clear hok
   cases b1 <;> cases b2 <;> cases b3
   all_goals first | (exfalso; simp at hb; done) | skip
   all_goals
    have hw := e1.symm
    have E2 := hU e2
    have E3 := hU e3
    clear e1 e2 e3 hb
    go_enter Try.func28, Try.ntmps28
    go_wp2_with fail
    refine (StartOf_all tag _).mono ?_
    rintro e w1 ⟨v, rfl, _, he⟩
    rw [← E2.out]
    go_wp2_with fail
    refine (PadOf_all _ _).mono ?_
    rintro e w2 ⟨rfl, h1⟩
    replace he := he.next h1; clear h1
    rw [← E3.out]
    go_wp2_with (go_at_call 33; refine (l02Width_any _ _).mono ?_; rintro e w' ⟨rfl, rfl⟩)
    go_ret2
    exact ⟨rfl, he⟩
 · have hok' := hok
   simp only [digestOk, Bool.and_eq_true, decide_eq_true_eq] at hok'
   obtain ⟨⟨b1, b2⟩, b3⟩ := hok'
   obtain ⟨lw0, lw1⟩ := inR_true b1
   rw [digest_yes hok]
   have Hf := hU (show digestT width.toNat tag T = (textW (mixT (T ++ padT T.size) (startW tag) ((T.size + (padT T.size).size) / 64))).extract 0 width.toNat by rw [digestT, ByteArray.size_append])
   have hps : (padT T.size).size ≤ 73 := by rw [padT_size]; unfold padZ; omega
   clear hok
   obtain ⟨fin, hfin⟩ : ∃ fin, fin = digestT width.toNat tag T := ⟨_, rfl⟩
   rw [← hfin]
   rw [← hfin] at Hf
   clear hfin
   go_enter Try.func28, Try.ntmps28
   go_wp2_with fail
   refine (StartOf_any tag _ b2).mono ?_
   rintro e w1 ⟨v, rfl, ho, he⟩
   have KS := hU (State8.of_own ho (startW_len tag))
   clear ho
   go_wp2_with fail
   refine (PadOf_any T.size _ b3).mono ?_
   rintro e w2 ⟨rfl, h1⟩
   replace he := he.next h1
   have KS2 : Hid (State8 w2 v (startW tag)) := by
    obtain ⟨A, c, hv, hr⟩ := KS.out
    exact hU ⟨A, c, hv, hr.ext h1⟩
   clear h1 KS
   go_wp2_with (go_at_call 33; refine (l02Width_any _ _).mono ?_; rintro e w' ⟨rfl, rfl⟩)
   refine (l02Mixed_any v (startW tag) (T ++ padT T.size) _ (startW_len tag) (startW_32 tag) KS2.out (by rw [ByteArray.size_append]; omega)).mono ?_
   rintro e w3 ⟨v', rfl, hs, h1⟩
   replace he := he.next h1
   obtain ⟨A, c, rfl, hr⟩ := hs
   rw [ByteArray.size_append] at hr
   have KR := hU hr
   clear h1 hr KS2
   go_wp2_with fail
   refine (l02First_any width A c _ _ KR.out (by rw [mixT_len, startW_len]) (mixT_32 _ (startW_32 tag) _) lw0 lw1).mono ?_
   rintro e w4 ⟨rfl, h1⟩
   replace he := he.next h1; clear h1
   rw [← Hf.out]
   go_wp2_with fail
   go_ret2
   exact ⟨rfl, he⟩
end Go.Proofs.Ytgeengkdgdjcjaa
