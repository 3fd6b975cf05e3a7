/-
  ItemHash; ConvHead; ConvEntry; ConvReceipt; NItem: No condition.
-/
import Derived.Test.YtgeengkdgdjcjaaGreatPath
import Derived.Test.YtgeengkdgdjcjaaGreatLeafText
import Derived.Test.YtgeengkdgdjcjaaGreatTexts
import Derived.StillTailTactics
import Derived.Test.YtgeengkdgdjcjaaGreatNString
namespace Go.Proofs.YtgeengkdgdjcjaaGreat
set_option maxHeartbeats 1000000
set_option linter.unusedSimpArgs false
open Go.RowKit
set_option linter.unusedVariables false
def leafHOk (n : Int) (e : EntryD) : Bool := entryOk e && digestOk n 0 (leafText e)
def leafH (n : Int) (e : EntryD) : ByteArray := if entryOk e then digest n 0 (leafText e) else ⟨#[]⟩
def recHOk (n : Int) (r : ReceiptD) : Bool := receiptOk r && digestOk n 2 (receiptText r)
def recH (n : Int) (r : ReceiptD) : ByteArray := if receiptOk r then digest n 2 (receiptText r) else ⟨#[]⟩
theorem octB_size1 (k : Int) : (octB k).size = 1 := rfl
theorem leafText_size (d : EntryD) : (leafText d).size ≤ 1000 := by
 unfold leafText
 by_cases h : entryOk d = true
 · have := entryOk_bounds h
   rw [if_pos h, leafT]
   have e : (lowB d.time.toNat 4).size = 4 := rfl
   have e1 : (⟨#[69]⟩ : ByteArray).size = 1 := rfl
   simp only [ByteArray.size_append, octB_size1, e, e1]
   omega
 · rw [if_neg h]; decide
theorem receiptText_size (d : ReceiptD) : (receiptText d).size ≤ 1000 := by
 unfold receiptText
 by_cases h : receiptOk d = true
 · have h' := h
   simp only [receiptOk, Bool.and_eq_true] at h'
   have s1 := nameOk_size h'.1.1
   have s2 := nameOk_size h'.1.2
   rw [if_pos h, receiptT]
   have e1 : (⟨#[82]⟩ : ByteArray).size = 1 := rfl
   simp only [ByteArray.size_append, octB_size1, e1]
   omega
 · rw [if_neg h]; decide
theorem small_max {b : ByteArray} (h : b.size ≤ 1000) : b.size ≤ maxLen := by unfold maxLen; omega
theorem leafH_yes {n : Int} {e : EntryD} (h : entryOk e = true) : leafH n e = digest n 0 (leafText e) ∧ leafHOk n e = digestOk n 0 (leafText e) := by simp [leafH, leafHOk, h]
theorem leafH_no {n : Int} {e : EntryD} (h : entryOk e = false) : leafH n e = ⟨#[]⟩ ∧ leafHOk n e = false := by simp [leafH, leafHOk, h]
theorem recH_yes {n : Int} {e : ReceiptD} (h : receiptOk e = true) : recH n e = digest n 2 (receiptText e) ∧ recHOk n e = digestOk n 2 (receiptText e) := by simp [recH, recHOk, h]
theorem recH_no {n : Int} {e : ReceiptD} (h : receiptOk e = false) : recH n e = ⟨#[]⟩ ∧ recHOk n e = false := by simp [recH, recHOk, h]
theorem implLeafHash_any (n : Int) (d : EntryD) (w : World) (hd : d.Ok) : Calls Tryz.prog 136 #[.int .i64 n, .agg #[.string d.topic, .int .i64 d.index, .int .i64 d.time, .string d.key, .string d.body]] w fun e w' => e = .returned (.tuple #[.string (leafH n d), .bool (leafHOk n d)]) ∧ Ext w w' := by
 have Hd := hU hd; clear hd
 cases b : entryOk d
 · obtain ⟨e1, e2⟩ := leafH_no (n := n) b
   rw [e1, e2]
   go_enter Tryz.func136, Tryz.ntmps136
   go_wp2_with fail
   refine (LeafText_any d _ Hd.out).mono ?_
   rintro e w1 ⟨rfl, h1⟩
   rw [b]
   go_wp2_with fail
   go_ret2
   exact ⟨rfl, by first | exact h1 | exact Ext.next (Ext.new (Below.refl _ _) _) h1⟩
 · obtain ⟨e1, e2⟩ := leafH_yes (n := n) b
   rw [e1, e2]
   have hs := small_max (leafText_size d)
   go_enter Tryz.func136, Tryz.ntmps136
   go_wp2_with fail
   refine (LeafText_any d _ Hd.out).mono ?_
   rintro e w1 ⟨rfl, h1⟩
   rw [b]
   go_wp2_with fail
   refine (Digest_any n 0 (leafText d) _ hs).mono ?_
   rintro e w2 ⟨rfl, h2⟩
   go_wp2_with fail
   go_ret2
   exact ⟨rfl, by first | exact h1.next h2 | exact Ext.next (Ext.new (Below.refl _ _) _) (h1.next h2)⟩
theorem implReceiptHash_any (n : Int) (d : ReceiptD) (w : World) (hd : d.Ok) : Calls Tryz.prog 144 #[.int .i64 n, .agg #[.string d.reader, .string d.topic, .int .i64 d.index]] w fun e w' => e = .returned (.tuple #[.string (recH n d), .bool (recHOk n d)]) ∧ Ext w w' := by
 have Hd := hU hd; clear hd
 cases b : receiptOk d
 · obtain ⟨e1, e2⟩ := recH_no (n := n) b
   rw [e1, e2]
   go_enter Tryz.func144, Tryz.ntmps144
   go_wp2_with fail
   refine (ReceiptText_any d _ Hd.out).mono ?_
   rintro e w1 ⟨rfl, h1⟩
   rw [b]
   go_wp2_with fail
   go_ret2
   exact ⟨rfl, by first | exact h1 | exact Ext.next (Ext.new (Below.refl _ _) _) h1⟩
 · obtain ⟨e1, e2⟩ := recH_yes (n := n) b
   rw [e1, e2]
   have hs := small_max (receiptText_size d)
   go_enter Tryz.func144, Tryz.ntmps144
   go_wp2_with fail
   refine (ReceiptText_any d _ Hd.out).mono ?_
   rintro e w1 ⟨rfl, h1⟩
   rw [b]
   go_wp2_with fail
   refine (Digest_any n 2 (receiptText d) _ hs).mono ?_
   rintro e w2 ⟨rfl, h2⟩
   go_wp2_with fail
   go_ret2
   exact ⟨rfl, by first | exact h1.next h2 | exact Ext.next (Ext.new (Below.refl _ _) _) (h1.next h2)⟩
theorem specLeafHash_any (n : Int) (d : EntryD) (w : World) (hd : d.Ok) : Calls Tryz.prog 93 #[.int .i64 n, .agg #[.string d.topic, .int .i64 d.index, .int .i64 d.time, .string d.key, .string d.body]] w fun e w' => e = .returned (.tuple #[.string (leafH n d), .bool (leafHOk n d)]) ∧ Ext w w' := by
 have Hd := hU hd; clear hd
 cases b : entryOk d
 · obtain ⟨e1, e2⟩ := leafH_no (n := n) b
   rw [e1, e2]
   go_enter Tryz.func93, Tryz.ntmps93
   go_wp2_with fail
   refine (specLeafText_any d _ Hd.out).mono ?_
   rintro e w1 ⟨rfl, h1⟩
   rw [b]
   go_wp2_with fail
   go_ret2
   exact ⟨rfl, by first | exact h1 | exact Ext.next (Ext.new (Below.refl _ _) _) h1⟩
 · obtain ⟨e1, e2⟩ := leafH_yes (n := n) b
   rw [e1, e2]
   have hs := small_max (leafText_size d)
   go_enter Tryz.func93, Tryz.ntmps93
   go_wp2_with fail
   refine (specLeafText_any d _ Hd.out).mono ?_
   rintro e w1 ⟨rfl, h1⟩
   rw [b]
   go_wp2_with fail
   refine (specDigest_any n 0 (leafText d) _ hs).mono ?_
   rintro e w2 ⟨rfl, h2⟩
   go_wp2_with fail
   go_ret2
   exact ⟨rfl, by first | exact h1.next h2 | exact Ext.next (Ext.new (Below.refl _ _) _) (h1.next h2)⟩
def HeadD.lens (d : HeadD) : List Nat := [d.root.size, d.takenRoot.size]
def EntryD.lens (d : EntryD) : List Nat := [d.topic.size, d.key.size, d.body.size]
def ReceiptD.lens (d : ReceiptD) : List Nat := [d.reader.size, d.topic.size]
structure ItemD where
 kind : Int
 old : HeadD
 head : HeadD
 leaf : Int
 entry : EntryD
 receipt : ReceiptD
 proof : List ByteArray
 more : List ByteArray
def ItemD.In : Rep ItemD := fun p w cs d => ∃ (A0 : Option Addr) (c0 : Nat) (A1 : Option Addr) (c1 : Nat), cs = [.int .i64 d.kind, .int .i64 d.old.number, .int .i64 d.old.size, .string d.old.root, .int .i64 d.old.taken, .string d.old.takenRoot, .int .i64 d.head.number, .int .i64 d.head.size, .string d.head.root, .int .i64 d.head.taken, .string d.head.takenRoot, .int .i64 d.leaf, .string d.entry.topic, .int .i64 d.entry.index, .int .i64 d.entry.time, .string d.entry.key, .string d.entry.body, .string d.receipt.reader, .string d.receipt.topic, .int .i64 d.receipt.index, .slice A0 d.proof.length c0, .slice A1 d.more.length c1] ∧ SlF p sone 1 w A0 d.proof c0 ∧ SlF p sone 1 w A1 d.more c1
theorem ItemD.steady : Steady ItemD.In := ⟨fun h k => by obtain ⟨A0, c0, A1, c1, rfl, s0, s1⟩ := h; exact ⟨_, _, _, _, rfl, s0.keep k, s1.keep k⟩, fun h k => by obtain ⟨A0, c0, A1, c1, rfl, s0, s1⟩ := h; exact ⟨_, _, _, _, rfl, s0.mono k, s1.mono k⟩⟩
theorem ItemD.in_len {p : Nat → Prop} {w : World} {cs : List Value} {d : ItemD} (h : ItemD.In p w cs d) : cs.length = 22 := by obtain ⟨A0, c0, A1, c1, rfl, _⟩ := h; rfl
def ItemD.Ok (d : ItemD) : Prop := (Lit.int .i64 d.kind).wf = true ∧ d.old.Ok ∧ d.head.Ok ∧ (Lit.int .i64 d.leaf).wf = true ∧ d.entry.Ok ∧ d.receipt.Ok ∧ (∀ s ∈ d.proof, s.size ≤ maxLen) ∧ (∀ s ∈ d.more, s.size ≤ maxLen)
def ItemD.lens (d : ItemD) : List Nat := d.old.lens ++ (d.head.lens ++ (d.entry.lens ++ (d.receipt.lens ++ ((d.proof.length :: d.proof.flatMap slens) ++ ((d.more.length :: d.more.flatMap slens) ++ [])))))
end Go.Proofs.YtgeengkdgdjcjaaGreat
