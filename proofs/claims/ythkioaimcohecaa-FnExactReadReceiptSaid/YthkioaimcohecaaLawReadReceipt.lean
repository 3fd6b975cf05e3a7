/-
  The program's ReadReceipt returns what the reference's returns, for all arguments. No condition.
-/
import Derived.Test.YthkioaimcohecaaRows
import Derived.Test.YthkioaimcohecaaFacts
import Derived.Test.YthkioaimcohecaaSpecRec
import Derived.Test.YthkioaimcohecaaReread
namespace Go.Proofs.Ythkioaimcohecaa
open Go.RowKit Go.WideShapes Go.ChangeAt
set_option linter.unusedVariables false

theorem rr_same (T : ByteArray) : rrImpl T = rrSpec T := by
  unfold rrImpl rrSpec
  cases hb : (rr4 T).bad
  · cases hk : receiptOk (rrD T)
    · simp
    · have h4 := rdNext_ok hb
      have p3 := two_of _ (rdTake_full hb)
      have h3 := rdShortNext_ok h4.1
      have h2 := rdShortNext_ok h3.1
      have p1 := lenB _ _ h2.2.2.1 h2.2.2.2
      have p2 := lenB _ _ h3.2.2.1 h3.2.2.2
      have hp : (rdTake T rr0 1).size = 1 := rdTake_full h2.1
      have hS : Sofar T (rr4 T) (((((⟨#[]⟩ ++ rdTake T rr0 1) ++ rdTake T (rr1 T) 1 ++ rdShort T (rr1 T) 1) ++ rdTake T (rr2 T) 1 ++ rdShort T (rr2 T) 1)) ++ rdTake T (rr3 T) 2) :=
        (((((((Sofar.start T).take 1).take 1).take _).take 1).take _).take 2)
      rw [← p1, ← p2, ← p3] at hS
      have hE : (⟨#[]⟩ : ByteArray) ++ rdTake T rr0 1 = rdTake T rr0 1 := ByteArray.empty_append
      rw [hE] at hS
      simp only [ByteArray.append_assoc] at hS
      have h := reread (k := ⟨#[82]⟩) hS hb hp
      simp only [receiptText, hk, Bool.and_true, Bool.true_and, Bool.not_false, if_true, rrKind, kind_of, bytes_beq]
      rw [h]
      simp only [receiptT, rrD, ByteArray.append_assoc]
  · rw [reread_bad hb]; simp

/-- What reading a receipt tells. -/
def rrOut (ok : Bool) (d : ReceiptD) : ReceiptD := if ok then d else ⟨⟨#[]⟩, ⟨#[]⟩, 0⟩
theorem rrRes_eq (ok : Bool) (d : ReceiptD) : rrRes ok d = .returned (.tuple #[.agg #[.string (rrOut ok d).reader, .string (rrOut ok d).topic, .int .i64 (rrOut ok d).index], .bool ok]) := rfl
set_option maxHeartbeats 1000000 in
set_option maxRecDepth 100000 in
theorem lawReadReceipt_walk (T : ByteArray) (w : World) (hT : T.size ≤ maxLen) :
    Calls Try.prog 8 #[.string T] w fun e w' => e = .returned (.bool true) ∧ Ext w w' := by
  unfold maxLen at hT
  by_cases hs : 1048576 < T.size
  · go_enter Try.func8, Try.ntmps8
    go_wp2_with fail
    go_ret
    exact ⟨rfl, by go_grown⟩
  · go_enter Try.func8, Try.ntmps8
    go_wp2_with fail
    have he := Below.refl w.heap.size w
    refine (specReadReceipt_any T _ (by omega)).mono ?_
    rintro e w1 ⟨he1, h1⟩
    rw [rrRes_eq] at he1
    subst he1
    replace he := Ext.next he h1; clear h1
    obtain ⟨d, hd⟩ : ∃ d, d = rrOut (rrSpec T) (rrD T) := ⟨_, rfl⟩
    obtain ⟨ok, hok⟩ : ∃ ok, ok = rrSpec T := ⟨_, rfl⟩
    rw [← hd, ← hok]
    have Hd := Lib.hid hd
    have Ho := Lib.hid hok
    clear hd hok
    go_wp2_with fail
    have b0 := Blk.new w1 52 #[.string d.reader, .string d.topic, .int .i64 d.index]
    replace he := he.new (.cells #[.string d.reader, .string d.topic, .int .i64 d.index] 52)
    refine (ReadReceipt_any T _ (by omega)).mono ?_
    rintro e w2 ⟨he1, h1⟩
    rw [rr_same, rrRes_eq, ← Hd.out, ← Ho.out] at he1
    subst he1
    replace he := he.next h1; replace b0 := b0.ext h1; clear h1
    go_upto_region 5 with fail
    have b1 := Blk.new w2 52 #[.string d.reader, .string d.topic, .int .i64 d.index]
    replace he := he.new (.cells #[.string d.reader, .string d.topic, .int .i64 d.index] 52)
    replace b0 := b0.alloc (.cells #[.string d.reader, .string d.topic, .int .i64 d.index] 52)
    generalize w2.alloc (.cells #[.string d.reader, .string d.topic, .int .i64 d.index] 52) = w3 at *
    obtain ⟨hc, hf⟩ := b0.rules
    obtain ⟨kc, kf⟩ := b1.rules
    go_wp2_with fail
    refine (eqReceipt_same d _).mono ?_
    rintro e w4 ⟨rfl, h1⟩
    replace he := he.next h1
    cases ok
    all_goals
      go_wp2_with fail
      go_ret
      exact ⟨rfl, he⟩

set_option maxRecDepth 100000 in
theorem ReadReceipt_holds : Rows.FnExactReadReceiptSaid :=
  lawOver (p := Try.pinned) (c := Rows.fnExactReadReceiptRow) (s := Rows.fnExactReadReceiptSpec) 8 Try.f8 4
    own laidOut (by kernel_rfl) (by kernel_rfl) rfl rfl Try.underlying4
    (fun H ds h => by match ds, h with | [d0], _ => rfl)
    rfl rfl rfl rfl rfl rfl rfl ⟨rfl, rfl, rfl, rfl, rfl⟩ rfl rfl rfl rfl rfl (by kernel_rfl) Try.func8 (by kernel_rfl)
    (of_decide_eq_true (by kernel_rfl)) (by unfold Func.isWrapper; rw [if_neg (of_decide_eq_false (by kernel_rfl))]; exact ⟨rfl, rfl⟩)
    rfl rfl (fun _ _ => rfl) rfl rfl rfl rfl
    (fun os started H enc => ChangeSpec.witness6 (enc := enc) (C := Try.checked) false ⟨#[], #[.string ⟨#[]⟩], []⟩ 20 (by kernel_rfl) (by kernel_rfl) (by kernel_rfl) (by kernel_rfl))
    (fun W args h => by
      have hs := h.size
      obtain ⟨l⟩ := args
      match l, hs with
      | [v0], _ =>
        obtain ⟨base0, n0, o0, t0⟩ := h.arg 0 9 v0 rfl rfl
        obtain ⟨T, rfl⟩ := okWide_string Try.underlying9 o0
        obtain ⟨T', hT', hT⟩ := typed_string Try.underlying9 t0
        obtain rfl : T = T' := by simpa [Value.cells] using hT'
        exact lawReadReceipt_walk T W hT)
#print axioms ReadReceipt_holds
end Go.Proofs.Ythkioaimcohecaa
