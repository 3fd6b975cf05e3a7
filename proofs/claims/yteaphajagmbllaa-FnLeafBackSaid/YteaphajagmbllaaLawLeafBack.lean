/-
  A drawn right entry, and a drawn right receipt, come back from their texts. No condition.
-/
import Derived.Test.YteaphajagmbllaaRows
import Derived.Test.YteaphajagmbllaaFacts
import Derived.Test.YteaphajagmbllaaLeafBk
import Derived.Test.YteaphajagmbllaaDraw3
namespace Go.Proofs.Yteaphajagmbllaa
open Go.RowKit Go.WideShapes Go.ChangeAt
set_option linter.unusedVariables false

theorem topics_ok : ∀ t ∈ topics, nameOk t = true := by decide +kernel
theorem whos_ok : ∀ t ∈ whos, nameOk t = true := by decide +kernel
theorem byte_typed {w : World} {n : Nat} {cs : List Value} (h : Typed Try.prog w n 5 cs) : ∃ x, cs = byteC x ∧ ByteIn x := by
  obtain ⟨m, rfl, hw⟩ := typed_int Try.underlying5 h
  refine ⟨m, rfl, ?_⟩
  simp [Lit.wf, IntKind.min, IntKind.max, IntKind.signed, IntKind.bits] at hw
  exact ⟨by omega, by omega⟩
theorem big_any (A : Option Addr) (n c : Nat) (w : World) (h : n ≤ maxLen) : Calls Try.prog 8 #[.slice A n c] w fun e w' => e = .returned (.bool (decide (1048576 < n))) ∧ w = w' := by
  by_cases hb : 1048576 < n
  · have hd : decide (1048576 < n) = true := decide_eq_true hb
    rw [hd]
    go_enter Try.func8, Try.ntmps8
    go_wp2_with fail
    go_ret
    exact ⟨ret_bool (by simp; omega), rfl⟩
  · have hd : decide (1048576 < n) = false := decide_eq_false hb
    rw [hd]
    go_enter Try.func8, Try.ntmps8
    go_wp2_with fail
    go_ret
    exact ⟨ret_bool (by simp; omega), rfl⟩
/-- A drawn deed: a right entry, a right receipt. -/
theorem deed_any (A : Option Addr) (c : Nat) (l : List Int) (w : World) (hlen : l.length ≤ maxLen) (hin : ∀ x ∈ l, ByteIn x) (hr : ReadsL w w.heap.size byteC 1 A l) :
    Calls Try.prog 9 #[.slice A l.length c] w fun e w' => Ext w w' ∧ ∃ (x : Int) (d : EntryD) (r : ReceiptD) (sl : Value), entryOk d = true ∧ d.Ok ∧ receiptOk r = true ∧ r.Ok ∧ e = .returned (.tuple #[.int .i64 x, .agg #[.string d.topic, .int .i64 d.index, .int .i64 d.time, .string d.key, .string d.body], .agg #[.string r.reader, .string r.topic, .int .i64 r.index], sl]) := by
  refine (DrawDeed_any A c l w hlen hin hr).mono ?_
  rintro e w1 ⟨he, x, t1, n1, s1, s2, who, t2, n2, sl, h1, h2, h3, h4, h5, h6, h7, h8, rfl⟩
  have k1 := topics_ok _ h1
  have k2 := topics_ok _ h5
  have k3 := whos_ok _ h4
  have z1 := nameOk_size k1
  have z2 := nameOk_size k2
  have z3 := nameOk_size k3
  refine ⟨he, x, ⟨t1, 0, (n1 : Int), s1, s2⟩, ⟨who, t2, n2⟩, sl, ?_, ?_, ?_, ?_, rfl⟩
  · simp [entryOk, k1, inR, partsB]; omega
  · refine ⟨?_, rfl, ?_, ?_, ?_⟩
    · show t1.size ≤ maxLen; unfold maxLen; omega
    · show (Lit.int .i64 (n1 : Int)).wf = true
      simp [Lit.wf, IntKind.min, IntKind.max, IntKind.signed, IntKind.bits]; omega
    · show s1.size ≤ maxLen; unfold maxLen; omega
    · show s2.size ≤ maxLen; unfold maxLen; omega
  · simp [receiptOk, k2, k3, inR]; omega
  · refine ⟨?_, ?_, ?_⟩
    · show who.size ≤ maxLen; unfold maxLen; omega
    · show t2.size ≤ maxLen; unfold maxLen; omega
    · show (Lit.int .i64 n2).wf = true
      simp [Lit.wf, IntKind.min, IntKind.max, IntKind.signed, IntKind.bits]; omega
theorem rlRes_yes (d : EntryD) : rlRes true d = .returned (.tuple #[.agg #[.string d.topic, .int .i64 d.index, .int .i64 d.time, .string d.key, .string d.body], .bool true]) := rfl
theorem rrRes_yes (d : ReceiptD) : rrRes true d = .returned (.tuple #[.agg #[.string d.reader, .string d.topic, .int .i64 d.index], .bool true]) := rfl
theorem leafText_small (d : EntryD) (h : entryOk d = true) : (leafText d).size ≤ 1099511627776 := by
  have := entryOk_bounds h
  rw [leafText, if_pos h, leafT]
  have e : (lowB d.time.toNat 4).size = 4 := rfl
  have e1 : (⟨#[69]⟩ : ByteArray).size = 1 := rfl
  have e2 : ∀ k, (octB k).size = 1 := fun _ => rfl
  simp only [ByteArray.size_append, e2, e, e1]
  omega
theorem receiptText_small (d : ReceiptD) (h : receiptOk d = true) : (receiptText d).size ≤ 1099511627776 := by
  have h' := h
  simp only [receiptOk, Bool.and_eq_true] at h'
  have s1 := nameOk_size h'.1.1
  have s2 := nameOk_size h'.1.2
  rw [receiptText, if_pos h, receiptT]
  have e1 : (⟨#[82]⟩ : ByteArray).size = 1 := rfl
  have e2 : ∀ k, (octB k).size = 1 := fun _ => rfl
  simp only [ByteArray.size_append, e2, e1]
  omega
set_option maxHeartbeats 4000000 in
set_option maxRecDepth 100000 in
theorem lawLeafBack_walk (A : Option Addr) (c : Nat) (l : List Int) (w : World) (hlen : l.length ≤ maxLen) (hin : ∀ x ∈ l, ByteIn x) (hr : ReadsL w w.heap.size byteC 1 A l) :
    Calls Try.prog 3 #[.slice A l.length c] w fun e w' => e = .returned (.bool true) ∧ Ext w w' := by
  by_cases hb : 1048576 < l.length
  · have hd : decide (1048576 < l.length) = true := decide_eq_true hb
    go_enter Try.func3, Try.ntmps3
    go_wp2_with (go_at_call 8; refine (big_any _ _ _ _ hlen).mono ?_; rintro e w' ⟨rfl, rfl⟩; rw [hd])
    go_ret
    exact ⟨rfl, Below.refl _ _⟩
  have hd : decide (1048576 < l.length) = false := decide_eq_false hb
  have Hr := Lib.hid hr; clear hr
  have Hin := Lib.hid hin; clear hin
  go_enter Try.func3, Try.ntmps3
  go_wp2_with (go_at_call 8; refine (big_any _ _ _ _ hlen).mono ?_; rintro e w' ⟨rfl, rfl⟩; rw [hd])
  refine (deed_any A c l _ hlen Hin.out Hr.out).mono ?_
  rintro e w1 ⟨he, x, d, r, sl, hdo, hdk, hro, hrk, rfl⟩
  have Hdk := Lib.hid hdk; clear hdk
  have Hrk := Lib.hid hrk; clear hrk
  go_wp2_with fail
  have b0 := (Blk.new w1 25 #[.string d.topic, .int .i64 d.index, .int .i64 d.time, .string d.key, .string d.body]).alloc (.cells #[.string r.reader, .string r.topic, .int .i64 r.index] 27)
  have b1 := Blk.new (w1.alloc (.cells #[.string d.topic, .int .i64 d.index, .int .i64 d.time, .string d.key, .string d.body] 25)) 27 #[.string r.reader, .string r.topic, .int .i64 r.index]
  rw [World.size_alloc] at b1
  replace he := (he.new (.cells #[.string d.topic, .int .i64 d.index, .int .i64 d.time, .string d.key, .string d.body] 25)).new (.cells #[.string r.reader, .string r.topic, .int .i64 r.index] 27)
  obtain ⟨g, hg⟩ : ∃ g, g = w1.heap.size := ⟨_, rfl⟩
  rw [← hg] at b0 b1
  rw [← hg]
  clear hg
  generalize (w1.alloc (.cells #[.string d.topic, .int .i64 d.index, .int .i64 d.time, .string d.key, .string d.body] 25)).alloc (.cells #[.string r.reader, .string r.topic, .int .i64 r.index] 27) = w2 at *
  refine (LeafText_any d _ Hdk.out).mono ?_
  rintro e w3 ⟨rfl, h1⟩
  replace he := he.next h1; replace b0 := b0.ext h1; replace b1 := b1.ext h1; clear h1
  rw [hdo]
  obtain ⟨hl1, hl2⟩ := leaf_back hdo
  have hls := leafText_small d hdo
  generalize leafText d = T at *
  go_wp2_with fail
  refine (ReadLeaf_any T _ hls).mono ?_
  rintro e w4 ⟨he1, h1⟩
  rw [hl1, hl2, rlRes_yes] at he1
  subst he1
  replace he := he.next h1; replace b0 := b0.ext h1; replace b1 := b1.ext h1; clear h1
  obtain ⟨hc0, hf0⟩ := b0.rules
  obtain ⟨hc1, hf1⟩ := b1.rules
  go_upto_region 6 with fail
  clear hc0 hf0 hc1 hf1
  have b2 := Blk.new w4 25 #[.string d.topic, .int .i64 d.index, .int .i64 d.time, .string d.key, .string d.body]
  replace he := he.new (.cells #[.string d.topic, .int .i64 d.index, .int .i64 d.time, .string d.key, .string d.body] 25)
  replace b0 := b0.alloc (.cells #[.string d.topic, .int .i64 d.index, .int .i64 d.time, .string d.key, .string d.body] 25)
  replace b1 := b1.alloc (.cells #[.string d.topic, .int .i64 d.index, .int .i64 d.time, .string d.key, .string d.body] 25)
  obtain ⟨g2, hg⟩ : ∃ g2, g2 = w4.heap.size := ⟨_, rfl⟩
  rw [← hg] at b2
  rw [← hg]
  clear hg
  generalize w4.alloc (.cells #[.string d.topic, .int .i64 d.index, .int .i64 d.time, .string d.key, .string d.body] 25) = w5 at *
  obtain ⟨hc1, hf1⟩ := b1.rules
  go_wp2_with fail
  clear hc1 hf1
  refine (ReceiptText_any r _ Hrk.out).mono ?_
  rintro e w6 ⟨rfl, h1⟩
  replace he := he.next h1; replace b0 := b0.ext h1; replace b1 := b1.ext h1; replace b2 := b2.ext h1; clear h1
  rw [hro]
  obtain ⟨hm1, hm2⟩ := receipt_back hro
  have hms := receiptText_small r hro
  generalize receiptText r = U at *
  go_wp2_with fail
  refine (ReadReceipt_any U _ hms).mono ?_
  rintro e w7 ⟨he1, h1⟩
  rw [hm1, hm2, rrRes_yes] at he1
  subst he1
  replace he := he.next h1; replace b0 := b0.ext h1; replace b1 := b1.ext h1; replace b2 := b2.ext h1; clear h1
  go_upto_region 8 with fail
  have b3 := Blk.new w7 27 #[.string r.reader, .string r.topic, .int .i64 r.index]
  replace he := he.new (.cells #[.string r.reader, .string r.topic, .int .i64 r.index] 27)
  replace b0 := b0.alloc (.cells #[.string r.reader, .string r.topic, .int .i64 r.index] 27)
  replace b1 := b1.alloc (.cells #[.string r.reader, .string r.topic, .int .i64 r.index] 27)
  replace b2 := b2.alloc (.cells #[.string r.reader, .string r.topic, .int .i64 r.index] 27)
  obtain ⟨g3, hg⟩ : ∃ g3, g3 = w7.heap.size := ⟨_, rfl⟩
  rw [← hg] at b3
  rw [← hg]
  clear hg
  generalize w7.alloc (.cells #[.string r.reader, .string r.topic, .int .i64 r.index] 27) = w8 at *
  obtain ⟨hc0, hf0⟩ := b0.rules
  obtain ⟨hc1, hf1⟩ := b1.rules
  obtain ⟨hc2, hf2⟩ := b2.rules
  obtain ⟨hc3, hf3⟩ := b3.rules
  go_wp2_with fail
  go_ret
  exact ⟨rfl, he⟩

set_option maxRecDepth 100000 in
theorem LeafBack_holds : Rows.FnLeafBackSaid :=
  lawOver (p := Try.pinned) (c := Rows.fnLeafBackRow) (s := Rows.fnLeafBackSpec) 3 Try.f3 4
    own laidOut (by kernel_rfl) (by kernel_rfl) rfl rfl Try.underlying4
    (fun H ds h => by match ds, h with | [d0], _ => rfl)
    rfl rfl rfl rfl rfl rfl rfl ⟨rfl, rfl, rfl, rfl, rfl⟩ rfl rfl rfl rfl rfl (by kernel_rfl) Try.func3 (by kernel_rfl)
    (of_decide_eq_true (by kernel_rfl)) (by unfold Func.isWrapper; rw [if_neg (of_decide_eq_false (by kernel_rfl))]; exact ⟨rfl, rfl⟩)
    rfl rfl (fun _ _ => rfl) rfl rfl rfl rfl
    (fun os started H enc => ChangeSpec.witness6 (enc := enc) (C := Try.checked) false ⟨#[], #[.slice none 0 0], []⟩ 20 (by kernel_rfl) (by kernel_rfl) (by kernel_rfl) (by kernel_rfl))
    (fun W args h => by
      have hs := h.size
      obtain ⟨l⟩ := args
      match l, hs with
      | [v0], _ =>
        obtain ⟨base0, n0, o0, t0⟩ := h.arg 0 22 v0 rfl rfl
        obtain ⟨A0, l0, c0, rfl⟩ := okWide_slice Try.underlying22 o0
        obtain ⟨B0, d0, a, e0, x0, y0, r0, k0⟩ := typed_slice byteC ByteIn 1 Try.underlying22 (by kernel_rfl) (by decide) (fun _ => rfl) (fun m es h => byte_typed h) t0
        obtain ⟨rfl, rfl, rfl⟩ : A0 = B0 ∧ l0 = a.length ∧ c0 = d0 := by simpa [Value.cells] using e0
        exact lawLeafBack_walk A0 c0 a W (Nat.le_trans x0 y0) k0 r0)
#print axioms LeafBack_holds
end Go.Proofs.Yteaphajagmbllaa
