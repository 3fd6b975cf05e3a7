/-
  Reopen and Mended on both sides. Written by program (gen_mended.py). No condition.
  Mended's row: its closed facts, each by itself. No condition.
-/
import Derived.Test.YtlgdghpnfclgpaaGreatReopen3
import Derived.Test.YtlgdghpnfclgpaaGreatReopen4
import Derived.Test.YtlgdghpnfclgpaaGreatRows
import Derived.Test.YtlgdghpnfclgpaaGreatArgs
namespace Go.Proofs.YtlgdghpnfclgpaaGreat
set_option linter.unusedSimpArgs false
open Go.RowKit
set_option linter.unusedVariables false
theorem implReopen_any (n : Int) (A : Option Addr) (c : Nat) (l : List ByteArray) (w : World) (hr : ReadsL w w.heap.size sone 1 A l) (hl : l.length ≤ 1048576) (hsz : ∀ x ∈ l, x.size ≤ 1099511627776) :
 Calls Tryz.prog 25 #[.int .i64 n, .agg #[.slice A l.length c]] w (ReAns n l w) := by
 cases h : (inR n 1 32 && diskOk l)
 · refine (implReopen_no n A c l w hr hl h).mono ?_
   rintro e w' ⟨rfl, hx⟩
   exact ReAns.bad (re1 h) (by decide) rfl (World.ownsRow_nil _ _ _ _) hx
 · exact implReopen_yes n A c l w hr hl hsz h
theorem specReopen_any (n : Int) (A : Option Addr) (c : Nat) (l : List ByteArray) (w : World) (hr : ReadsL w w.heap.size sone 1 A l) (hl : l.length ≤ 1048576) (hsz : ∀ x ∈ l, x.size ≤ 1099511627776) :
 Calls Tryz.prog 24 #[.int .i64 n, .agg #[.slice A l.length c]] w (ReAns n l w) := by
 cases h1 : inR n 1 32
 · exact specReopen_no1 n A c l w hr hl h1
 · cases h2 : diskOk l
   · exact specReopen_no2 n A c l w hr hl h1 h2
   · exact specReopen_yes n A c l w hr hl hsz (by rw [h1, h2]; rfl)
def mendB (n : Int) (l : List ByteArray) : Bool := decide (reCode n l = 0) && decide ((reW n l).length = 0)
set_option maxHeartbeats 4000000 in
set_option maxRecDepth 100000 in
theorem implMended_any (n : Int) (A : Option Addr) (c : Nat) (l : List ByteArray) (w : World) (hr : ReadsL w w.heap.size sone 1 A l) (hl : l.length ≤ 1048576) (hsz : ∀ x ∈ l, x.size ≤ 1099511627776) :
 Calls Tryz.prog 12 #[.int .i64 n, .agg #[.slice A l.length c]] w fun e w' => e = .returned (.bool (mendB n l)) ∧ Ext w w' := by
 have K0 := Blk.new w 27 #[.slice A l.length c]
 have he := Ext.new (Below.refl w.heap.size w) (.cells #[.slice A l.length c] 27)
 have CL := Lib.hid (implReopen_any n A c l _ (hr.ext he) hl hsz)
 obtain ⟨kc, kf⟩ := K0.rules
 obtain ⟨fin, hfin⟩ : ∃ fin, fin = mendB n l := ⟨_, rfl⟩
 rw [← hfin]
 have FN := Lib.hid hfin
 clear hfin hr hsz
 go_enter Tryz.func12, Tryz.ntmps12
 go_wp2_with fail
 refine CL.out.mono ?_
 rintro e w1 ⟨ve, vr, vh, v1, v2, vw, rfl, hb, ha, ho, h1⟩
 replace he := he.next h1
 obtain ⟨b, hbb⟩ : ∃ b, b = reBB n l := ⟨_, rfl⟩
 obtain ⟨cc, hcc⟩ : ∃ cc, cc = reCode n l := ⟨_, rfl⟩
 obtain ⟨N, hN⟩ : ∃ N, N = (reW n l).length := ⟨_, rfl⟩
 rw [← hbb] at hb
 rw [← hN] at ho
 rw [← hbb, ← hcc]
 rw [mendB, ← hcc, ← hN] at FN
 obtain ⟨E0, e0, rfl, _⟩ := ownsRow_form hb.e
 obtain ⟨E1, e1, rfl, _⟩ := ownsRow_form hb.r
 obtain ⟨E2, e2, rfl, _⟩ := ownsRow_form hb.h
 obtain ⟨E3, e3, rfl, _⟩ := ownsRow_form hb.p
 obtain ⟨E4, e4, rfl, _⟩ := ownsRow_form hb.q
 obtain ⟨V, cv, rfl, _⟩ := ownsRow_form ho
 clear hbb hcc hN hb ha ho h1 CL K0 kc kf
 simp only [brkCs]
 have KV0 := Blk.new w1 59 #[.int .i64 0, .slice none 0 0, .slice none 0 0, .slice none 0 0, .int .i64 0, .slice none 0 0, .int .i64 0, .slice none 0 0, .int .i64 0, .int .i64 0, .string ⟨#[]⟩, .int .i64 0, .string ⟨#[]⟩]
 obtain ⟨w3, hw3, hx⟩ : ∃ w3, w3 = (w1.alloc (.cells #[.int .i64 0, .slice none 0 0, .slice none 0 0, .slice none 0 0, .int .i64 0, .slice none 0 0, .int .i64 0, .slice none 0 0, .int .i64 0, .int .i64 0, .string ⟨#[]⟩, .int .i64 0, .string ⟨#[]⟩] 59)).setCells w1.heap.size 0 [.int .i64 b.width, .slice E0 b.log.entries.length e0, .slice E1 b.receipts.length e1, .slice E2 b.heads.length e2, .int .i64 b.sealed.leaves.size, .slice E3 b.sealed.leaves.peaks.length e3, .int .i64 b.sealed.taken.size, .slice E4 b.sealed.taken.peaks.length e4, .int .i64 b.sealed.head.number, .int .i64 b.sealed.head.size, .string b.sealed.head.root, .int .i64 b.sealed.head.taken, .string b.sealed.head.takenRoot] ∧ Ext w w3 :=
  ⟨_, rfl, ext_setCells (W := w) (g := w1.heap.size) he.size [.int .i64 b.width, .slice E0 b.log.entries.length e0, .slice E1 b.receipts.length e1, .slice E2 b.heads.length e2, .int .i64 b.sealed.leaves.size, .slice E3 b.sealed.leaves.peaks.length e3, .int .i64 b.sealed.taken.size, .slice E4 b.sealed.taken.peaks.length e4, .int .i64 b.sealed.head.number, .int .i64 b.sealed.head.size, .string b.sealed.head.root, .int .i64 b.sealed.head.taken, .string b.sealed.head.takenRoot] 0 _ (he.new _)⟩
 have T4 := Lib.hid (KV0.there 0 13 (by simp))
 have HW := Lib.hid hw3; have HX := Lib.hid hx
 clear hw3 hx KV0 he
 go_upto_region 2 with (refine wpList_store_list rfl 59 _ _ rfl rfl w1.heap.size 0 [.int .i64 b.width, .slice E0 b.log.entries.length e0, .slice E1 b.receipts.length e1, .slice E2 b.heads.length e2, .int .i64 b.sealed.leaves.size, .slice E3 b.sealed.leaves.peaks.length e3, .int .i64 b.sealed.taken.size, .slice E4 b.sealed.taken.peaks.length e4, .int .i64 b.sealed.head.number, .int .i64 b.sealed.head.size, .string b.sealed.head.root, .int .i64 b.sealed.head.taken, .string b.sealed.head.takenRoot] rfl rfl T4.out (by kernel_rfl) (by rfl) ?_; rw [← HW.out])
 clear T4 HW
 rcases Nat.eq_zero_or_pos cc with z0 | z0
 · have z1 : ((cc : Int) == 0) = true := beq_iff_eq.2 (by omega)
   rcases Nat.eq_zero_or_pos N with y0 | y0
   · have y1 : ((N : Int) == 0) = true := beq_iff_eq.2 (by omega)
     have E := Lib.hid (show fin = true by rw [FN.out, decide_eq_true z0, decide_eq_true y0]; rfl)
     clear z0 y0
     go_wp2_with fail
     go_ret
     exact ⟨ret_bool E.out.symm, HX.out⟩
   · have y1 : ((N : Int) == 0) = false := beq_false_of_ne (by omega)
     have E := Lib.hid (show fin = false by rw [FN.out, decide_eq_true z0, decide_eq_false (by omega)]; rfl)
     clear z0 y0
     go_wp2_with fail
     go_ret
     exact ⟨ret_bool E.out.symm, HX.out⟩
 · have z1 : ((cc : Int) == 0) = false := beq_false_of_ne (by omega)
   have E := Lib.hid (show fin = false by rw [FN.out, decide_eq_false (by omega)]; rfl)
   clear z0
   go_wp2_with fail
   go_ret
   exact ⟨ret_bool E.out.symm, HX.out⟩
set_option maxHeartbeats 4000000 in
set_option maxRecDepth 100000 in
theorem specMended_any (n : Int) (A : Option Addr) (c : Nat) (l : List ByteArray) (w : World) (hr : ReadsL w w.heap.size sone 1 A l) (hl : l.length ≤ 1048576) (hsz : ∀ x ∈ l, x.size ≤ 1099511627776) :
 Calls Tryz.prog 10 #[.int .i64 n, .agg #[.slice A l.length c]] w fun e w' => e = .returned (.bool (mendB n l)) ∧ Ext w w' := by
 have K0 := Blk.new w 27 #[.slice A l.length c]
 have he := Ext.new (Below.refl w.heap.size w) (.cells #[.slice A l.length c] 27)
 have CL := Lib.hid (specReopen_any n A c l _ (hr.ext he) hl hsz)
 obtain ⟨kc, kf⟩ := K0.rules
 obtain ⟨fin, hfin⟩ : ∃ fin, fin = mendB n l := ⟨_, rfl⟩
 rw [← hfin]
 have FN := Lib.hid hfin
 clear hfin hr hsz
 go_enter Tryz.func10, Tryz.ntmps10
 go_wp2_with fail
 refine CL.out.mono ?_
 rintro e w1 ⟨ve, vr, vh, v1, v2, vw, rfl, hb, ha, ho, h1⟩
 replace he := he.next h1
 obtain ⟨b, hbb⟩ : ∃ b, b = reBB n l := ⟨_, rfl⟩
 obtain ⟨cc, hcc⟩ : ∃ cc, cc = reCode n l := ⟨_, rfl⟩
 obtain ⟨N, hN⟩ : ∃ N, N = (reW n l).length := ⟨_, rfl⟩
 rw [← hbb] at hb
 rw [← hN] at ho
 rw [← hbb, ← hcc]
 rw [mendB, ← hcc, ← hN] at FN
 obtain ⟨E0, e0, rfl, _⟩ := ownsRow_form hb.e
 obtain ⟨E1, e1, rfl, _⟩ := ownsRow_form hb.r
 obtain ⟨E2, e2, rfl, _⟩ := ownsRow_form hb.h
 obtain ⟨E3, e3, rfl, _⟩ := ownsRow_form hb.p
 obtain ⟨E4, e4, rfl, _⟩ := ownsRow_form hb.q
 obtain ⟨V, cv, rfl, _⟩ := ownsRow_form ho
 clear hbb hcc hN hb ha ho h1 CL K0 kc kf
 simp only [brkCs]
 have KV0 := Blk.new w1 59 #[.int .i64 0, .slice none 0 0, .slice none 0 0, .slice none 0 0, .int .i64 0, .slice none 0 0, .int .i64 0, .slice none 0 0, .int .i64 0, .int .i64 0, .string ⟨#[]⟩, .int .i64 0, .string ⟨#[]⟩]
 obtain ⟨w3, hw3, hx⟩ : ∃ w3, w3 = (w1.alloc (.cells #[.int .i64 0, .slice none 0 0, .slice none 0 0, .slice none 0 0, .int .i64 0, .slice none 0 0, .int .i64 0, .slice none 0 0, .int .i64 0, .int .i64 0, .string ⟨#[]⟩, .int .i64 0, .string ⟨#[]⟩] 59)).setCells w1.heap.size 0 [.int .i64 b.width, .slice E0 b.log.entries.length e0, .slice E1 b.receipts.length e1, .slice E2 b.heads.length e2, .int .i64 b.sealed.leaves.size, .slice E3 b.sealed.leaves.peaks.length e3, .int .i64 b.sealed.taken.size, .slice E4 b.sealed.taken.peaks.length e4, .int .i64 b.sealed.head.number, .int .i64 b.sealed.head.size, .string b.sealed.head.root, .int .i64 b.sealed.head.taken, .string b.sealed.head.takenRoot] ∧ Ext w w3 :=
  ⟨_, rfl, ext_setCells (W := w) (g := w1.heap.size) he.size [.int .i64 b.width, .slice E0 b.log.entries.length e0, .slice E1 b.receipts.length e1, .slice E2 b.heads.length e2, .int .i64 b.sealed.leaves.size, .slice E3 b.sealed.leaves.peaks.length e3, .int .i64 b.sealed.taken.size, .slice E4 b.sealed.taken.peaks.length e4, .int .i64 b.sealed.head.number, .int .i64 b.sealed.head.size, .string b.sealed.head.root, .int .i64 b.sealed.head.taken, .string b.sealed.head.takenRoot] 0 _ (he.new _)⟩
 have T4 := Lib.hid (KV0.there 0 13 (by simp))
 have HW := Lib.hid hw3; have HX := Lib.hid hx
 clear hw3 hx KV0 he
 go_upto_region 2 with (refine wpList_store_list rfl 59 _ _ rfl rfl w1.heap.size 0 [.int .i64 b.width, .slice E0 b.log.entries.length e0, .slice E1 b.receipts.length e1, .slice E2 b.heads.length e2, .int .i64 b.sealed.leaves.size, .slice E3 b.sealed.leaves.peaks.length e3, .int .i64 b.sealed.taken.size, .slice E4 b.sealed.taken.peaks.length e4, .int .i64 b.sealed.head.number, .int .i64 b.sealed.head.size, .string b.sealed.head.root, .int .i64 b.sealed.head.taken, .string b.sealed.head.takenRoot] rfl rfl T4.out (by kernel_rfl) (by rfl) ?_; rw [← HW.out])
 clear T4 HW
 rcases Nat.eq_zero_or_pos cc with z0 | z0
 · have z1 : ((cc : Int) == 0) = true := beq_iff_eq.2 (by omega)
   rcases Nat.eq_zero_or_pos N with y0 | y0
   · have y1 : ((N : Int) == 0) = true := beq_iff_eq.2 (by omega)
     have E := Lib.hid (show fin = true by rw [FN.out, decide_eq_true z0, decide_eq_true y0]; rfl)
     clear z0 y0
     go_wp2_with fail
     go_ret
     exact ⟨ret_bool E.out.symm, HX.out⟩
   · have y1 : ((N : Int) == 0) = false := beq_false_of_ne (by omega)
     have E := Lib.hid (show fin = false by rw [FN.out, decide_eq_true z0, decide_eq_false (by omega)]; rfl)
     clear z0 y0
     go_wp2_with fail
     go_ret
     exact ⟨ret_bool E.out.symm, HX.out⟩
 · have z1 : ((cc : Int) == 0) = false := beq_false_of_ne (by omega)
   have E := Lib.hid (show fin = false by rw [FN.out, decide_eq_false (by omega)]; rfl)
   clear z0
   go_wp2_with fail
   go_ret
   exact ⟨ret_bool E.out.symm, HX.out⟩
end Go.Proofs.YtlgdghpnfclgpaaGreat
namespace Go.Proofs.YtlgdghpnfclgpaaGreat
theorem and_two {a b : Bool} (h1 : a = true) (h2 : b = true) : (a && b) = true := by rw [h1, h2]; rfl
set_option maxHeartbeats 40000000 in
set_option maxRecDepth 100000 in
theorem mdFacts : joinedFacts Tryz.pinned.checked.prog 3 Tryz.f3 Rows.fnExactMendedSpec Rows.fnExactMendedRow = true := by
 unfold joinedFacts
 repeat' (with_reducible refine and_two ?_ ?_)
 all_goals (as_aux_lemma => kernel_rfl)
end Go.Proofs.YtlgdghpnfclgpaaGreat
