/-
  Hashes of entries and of receipts: walks. No condition.
  The laws' own copying and comparing functions at Entry: walks. Written by program (gen_conv.py). No condition.
  What Log is in memory; the laws' own functions at it: walks. Written by program (gen_nest.py). No condition.
  The laws' own copying and comparing functions at Receipt: walks. Written by program (gen_conv.py). No condition.
-/
import Derived.Test.YtlgdghpnfclgpaaGreatPath
import Derived.Test.YtlgdghpnfclgpaaGreatLeafText
import Derived.Test.YtlgdghpnfclgpaaGreatTypes
import Derived.StillTailTactics
import Derived.Test.YtlgdghpnfclgpaaGreatNest
namespace Go.Proofs.YtlgdghpnfclgpaaGreat
set_option linter.unusedSimpArgs false
open Go.RowKit
set_option linter.unusedVariables false
def leafHOk (n : Int) (e : EntryD) : Bool := entryOk e && digestOk n 0 (leafText e)
def leafH (n : Int) (e : EntryD) : ByteArray := if entryOk e then digest n 0 (leafText e) else ⟨#[]⟩
def recHOk (n : Int) (r : ReceiptD) : Bool := receiptOk r && digestOk n 2 (receiptText r)
def recH (n : Int) (r : ReceiptD) : ByteArray := if receiptOk r then digest n 2 (receiptText r) else ⟨#[]⟩
theorem octB_size1 (k : Int) : (octB k).size = 1 := rfl
theorem leafText_size (d : EntryD) : (leafText d).size ≤ 1000 := by
 unfold leafText
 by_cases h : entryOk d = true
 · have := entryOk_bounds h
   rw [if_pos h, leafT]
   have e : (lowB d.time.toNat 4).size = 4 := rfl
   have e1 : (⟨#[69]⟩ : ByteArray).size = 1 := rfl
   simp only [ByteArray.size_append, octB_size1, e, e1]
   omega
 · rw [if_neg h]; decide
theorem receiptText_size (d : ReceiptD) : (receiptText d).size ≤ 1000 := by
 unfold receiptText
 by_cases h : receiptOk d = true
 · have h' := h
   simp only [receiptOk, Bool.and_eq_true] at h'
   have s1 := nameOk_size h'.1.1
   have s2 := nameOk_size h'.1.2
   rw [if_pos h, receiptT]
   have e1 : (⟨#[82]⟩ : ByteArray).size = 1 := rfl
   simp only [ByteArray.size_append, octB_size1, e1]
   omega
 · rw [if_neg h]; decide
theorem small_max {b : ByteArray} (h : b.size ≤ 1000) : b.size ≤ maxLen := by unfold maxLen; omega
theorem leafH_yes {n : Int} {e : EntryD} (h : entryOk e = true) : leafH n e = digest n 0 (leafText e) ∧ leafHOk n e = digestOk n 0 (leafText e) := by simp [leafH, leafHOk, h]
theorem leafH_no {n : Int} {e : EntryD} (h : entryOk e = false) : leafH n e = ⟨#[]⟩ ∧ leafHOk n e = false := by simp [leafH, leafHOk, h]
theorem recH_yes {n : Int} {e : ReceiptD} (h : receiptOk e = true) : recH n e = digest n 2 (receiptText e) ∧ recHOk n e = digestOk n 2 (receiptText e) := by simp [recH, recHOk, h]
theorem recH_no {n : Int} {e : ReceiptD} (h : receiptOk e = false) : recH n e = ⟨#[]⟩ ∧ recHOk n e = false := by simp [recH, recHOk, h]
set_option maxHeartbeats 1000000 in
theorem implLeafHash_any (n : Int) (d : EntryD) (w : World) (hd : d.Ok) : Calls Tryz.prog 202 #[.int .i64 n, .agg #[.string d.topic, .int .i64 d.index, .int .i64 d.time, .string d.key, .string d.body]] w fun e w' => e = .returned (.tuple #[.string (leafH n d), .bool (leafHOk n d)]) ∧ Ext w w' := by
 have Hd := Lib.hid hd; clear hd
 cases b : entryOk d
 · obtain ⟨e1, e2⟩ := leafH_no (n := n) b
   rw [e1, e2]
   go_enter Tryz.func202, Tryz.ntmps202
   go_wp2_with fail
   refine (LeafText_any d _ Hd.out).mono ?_
   rintro e w1 ⟨rfl, h1⟩
   rw [b]
   go_wp2_with fail
   go_ret2
   exact ⟨rfl, by first | exact h1 | exact Ext.next (Ext.new (Below.refl _ _) _) h1⟩
 · obtain ⟨e1, e2⟩ := leafH_yes (n := n) b
   rw [e1, e2]
   have hs := small_max (leafText_size d)
   go_enter Tryz.func202, Tryz.ntmps202
   go_wp2_with fail
   refine (LeafText_any d _ Hd.out).mono ?_
   rintro e w1 ⟨rfl, h1⟩
   rw [b]
   go_wp2_with fail
   refine (Digest_any n 0 (leafText d) _ hs).mono ?_
   rintro e w2 ⟨rfl, h2⟩
   go_wp2_with fail
   go_ret2
   exact ⟨rfl, by first | exact h1.next h2 | exact Ext.next (Ext.new (Below.refl _ _) _) (h1.next h2)⟩
set_option maxHeartbeats 1000000 in
theorem implReceiptHash_any (n : Int) (d : ReceiptD) (w : World) (hd : d.Ok) : Calls Tryz.prog 203 #[.int .i64 n, .agg #[.string d.reader, .string d.topic, .int .i64 d.index]] w fun e w' => e = .returned (.tuple #[.string (recH n d), .bool (recHOk n d)]) ∧ Ext w w' := by
 have Hd := Lib.hid hd; clear hd
 cases b : receiptOk d
 · obtain ⟨e1, e2⟩ := recH_no (n := n) b
   rw [e1, e2]
   go_enter Tryz.func203, Tryz.ntmps203
   go_wp2_with fail
   refine (ReceiptText_any d _ Hd.out).mono ?_
   rintro e w1 ⟨rfl, h1⟩
   rw [b]
   go_wp2_with fail
   go_ret2
   exact ⟨rfl, by first | exact h1 | exact Ext.next (Ext.new (Below.refl _ _) _) h1⟩
 · obtain ⟨e1, e2⟩ := recH_yes (n := n) b
   rw [e1, e2]
   have hs := small_max (receiptText_size d)
   go_enter Tryz.func203, Tryz.ntmps203
   go_wp2_with fail
   refine (ReceiptText_any d _ Hd.out).mono ?_
   rintro e w1 ⟨rfl, h1⟩
   rw [b]
   go_wp2_with fail
   refine (Digest_any n 2 (receiptText d) _ hs).mono ?_
   rintro e w2 ⟨rfl, h2⟩
   go_wp2_with fail
   go_ret2
   exact ⟨rfl, by first | exact h1.next h2 | exact Ext.next (Ext.new (Below.refl _ _) _) (h1.next h2)⟩
set_option maxHeartbeats 1000000 in
theorem specLeafHash_any (n : Int) (d : EntryD) (w : World) (hd : d.Ok) : Calls Tryz.prog 133 #[.int .i64 n, .agg #[.string d.topic, .int .i64 d.index, .int .i64 d.time, .string d.key, .string d.body]] w fun e w' => e = .returned (.tuple #[.string (leafH n d), .bool (leafHOk n d)]) ∧ Ext w w' := by
 have Hd := Lib.hid hd; clear hd
 cases b : entryOk d
 · obtain ⟨e1, e2⟩ := leafH_no (n := n) b
   rw [e1, e2]
   go_enter Tryz.func133, Tryz.ntmps133
   go_wp2_with fail
   refine (specLeafText_any d _ Hd.out).mono ?_
   rintro e w1 ⟨rfl, h1⟩
   rw [b]
   go_wp2_with fail
   go_ret2
   exact ⟨rfl, by first | exact h1 | exact Ext.next (Ext.new (Below.refl _ _) _) h1⟩
 · obtain ⟨e1, e2⟩ := leafH_yes (n := n) b
   rw [e1, e2]
   have hs := small_max (leafText_size d)
   go_enter Tryz.func133, Tryz.ntmps133
   go_wp2_with fail
   refine (specLeafText_any d _ Hd.out).mono ?_
   rintro e w1 ⟨rfl, h1⟩
   rw [b]
   go_wp2_with fail
   refine (specDigest_any n 0 (leafText d) _ hs).mono ?_
   rintro e w2 ⟨rfl, h2⟩
   go_wp2_with fail
   go_ret2
   exact ⟨rfl, by first | exact h1.next h2 | exact Ext.next (Ext.new (Below.refl _ _) _) (h1.next h2)⟩
set_option maxHeartbeats 1000000 in
theorem specReceiptHash_any (n : Int) (d : ReceiptD) (w : World) (hd : d.Ok) : Calls Tryz.prog 134 #[.int .i64 n, .agg #[.string d.reader, .string d.topic, .int .i64 d.index]] w fun e w' => e = .returned (.tuple #[.string (recH n d), .bool (recHOk n d)]) ∧ Ext w w' := by
 have Hd := Lib.hid hd; clear hd
 cases b : receiptOk d
 · obtain ⟨e1, e2⟩ := recH_no (n := n) b
   rw [e1, e2]
   go_enter Tryz.func134, Tryz.ntmps134
   go_wp2_with fail
   refine (specReceiptText_any d _ Hd.out).mono ?_
   rintro e w1 ⟨rfl, h1⟩
   rw [b]
   go_wp2_with fail
   go_ret2
   exact ⟨rfl, by first | exact h1 | exact Ext.next (Ext.new (Below.refl _ _) _) h1⟩
 · obtain ⟨e1, e2⟩ := recH_yes (n := n) b
   rw [e1, e2]
   have hs := small_max (receiptText_size d)
   go_enter Tryz.func134, Tryz.ntmps134
   go_wp2_with fail
   refine (specReceiptText_any d _ Hd.out).mono ?_
   rintro e w1 ⟨rfl, h1⟩
   rw [b]
   go_wp2_with fail
   refine (specDigest_any n 2 (receiptText d) _ hs).mono ?_
   rintro e w2 ⟨rfl, h2⟩
   go_wp2_with fail
   go_ret2
   exact ⟨rfl, by first | exact h1.next h2 | exact Ext.next (Ext.new (Below.refl _ _) _) (h1.next h2)⟩
end Go.Proofs.YtlgdghpnfclgpaaGreat
namespace Go.Proofs.YtlgdghpnfclgpaaGreat
set_option linter.unusedSimpArgs false
open Go.RowKit
set_option linter.unusedVariables false
def EntryD.lens (d : EntryD) : List Nat := [d.topic.size, d.key.size, d.body.size]
theorem eqEntry_same (d : EntryD) (w : World) :
 Calls Tryz.prog 18 #[.agg #[.string d.topic, .int .i64 d.index, .int .i64 d.time, .string d.key, .string d.body], .agg #[.string d.topic, .int .i64 d.index, .int .i64 d.time, .string d.key, .string d.body]] w fun e w' => e = .returned (.bool true) ∧ Ext w w' := by
 go_enter Tryz.func18, Tryz.ntmps18
 go_wp2
 go_ret
 exact ⟨rfl, by go_grown⟩
set_option maxHeartbeats 1000000 in
set_option maxRecDepth 100000 in
theorem eqEntryS_same (A A' : Option Addr) (c c' : Nat) (l : List EntryD) (w : World) (hr : ReadsL w w.heap.size EntryD.cells 5 A l) (hr' : ReadsL w w.heap.size EntryD.cells 5 A' l) (hl : l.length ≤ 1048576) :
 Calls Tryz.prog 112 #[.slice A l.length c, .slice A' l.length c'] w fun e w' => e = .returned (.bool true) ∧ Ext w w' := by
 go_enter Tryz.func112, Tryz.ntmps112
 go_wp2
 go_loopw [5] (fun i wr => ∃ (k : Nat), k ≤ l.length ∧ i = .int .i64 k ∧ Ext w wr) (fun i _ => l.length - (intOf i).toNat)
 case atStart => exact ⟨0, Nat.zero_le _, rfl, Below.refl _ _⟩
 case round =>
  obtain ⟨k, hk, rfl, he⟩ := hrel
  by_cases hlt : k < l.length
  · obtain ⟨b, off, rfl, hb, hc⟩ := (hr.below he).at_ (k := k) hlt
    obtain ⟨b', off', rfl, hb', hc'⟩ := (hr'.below he).at_ (k := k) hlt
    obtain ⟨d, hd⟩ : ∃ d, d = l[k] := ⟨_, rfl⟩
    have hdl : l[k]? = some d := by rw [hd]; exact List.getElem?_eq_getElem hlt
    have c0 := hc 0 _ (flat_at _ 5 EntryD.cells_length l k 0 d hdl (by omega))
    have c1 := hc 1 _ (flat_at _ 5 EntryD.cells_length l k 1 d hdl (by omega))
    have c2 := hc 2 _ (flat_at _ 5 EntryD.cells_length l k 2 d hdl (by omega))
    have c3 := hc 3 _ (flat_at _ 5 EntryD.cells_length l k 3 d hdl (by omega))
    have c4 := hc 4 _ (flat_at _ 5 EntryD.cells_length l k 4 d hdl (by omega))
    have b0 := hc' 0 _ (flat_at _ 5 EntryD.cells_length l k 0 d hdl (by omega))
    have b1 := hc' 1 _ (flat_at _ 5 EntryD.cells_length l k 1 d hdl (by omega))
    have b2 := hc' 2 _ (flat_at _ 5 EntryD.cells_length l k 2 d hdl (by omega))
    have b3 := hc' 3 _ (flat_at _ 5 EntryD.cells_length l k 3 d hdl (by omega))
    have b4 := hc' 4 _ (flat_at _ 5 EntryD.cells_length l k 4 d hdl (by omega))
    rw [Nat.add_zero] at c0 b0
    clear hc hc' hd hdl
    go_wp2_with fail
    go_still_tail 8, (by kernel_rfl)
    change wpList _ _ _ _ _ wr.drew
    generalize hw : wr.drew = w2
    have he2 : Ext w w2 := by rw [← hw]; exact he.drew
    clear hw he
    go_wp2_with fail
    refine (eqEntry_same d _).mono ?_
    rintro e w1 ⟨rfl, h1⟩
    replace he2 := he2.next h1; clear h1 c0 c1 c2 c3 c4 b0 b1 b2 b3 b4
    go_wp2_with fail
    go_roundw
    case rel => exact ⟨k + 1, by omega, by go_num, he2⟩
    case measure => simp [intOf]; omega
  · go_wp2_with fail
    go_ret
    exact ⟨rfl, he⟩
end Go.Proofs.YtlgdghpnfclgpaaGreat
namespace Go.Proofs.YtlgdghpnfclgpaaGreat
set_option linter.unusedSimpArgs false
open Go.RowKit
set_option linter.unusedVariables false
structure LogD where
 entries : List EntryD
def LogD.In : Rep LogD := fun p w cs d => ∃ (A0 : Option Addr) (c0 : Nat), cs = [.slice A0 d.entries.length c0] ∧ SlF p EntryD.cells 5 w A0 d.entries c0
def LogD.Ok (d : LogD) : Prop := (∀ x ∈ d.entries, x.Ok)
def LogD.lens (d : LogD) : List Nat := (d.entries.length :: d.entries.flatMap EntryD.lens) ++ []
set_option maxRecDepth 100000 in
theorem LogD.typed {w : World} {n : Nat} {cs : List Value} (h : Typed Tryz.prog w n 33 cs) : ∃ d : LogD, LogD.In AnyB w cs d ∧ d.Ok := by
 obtain ⟨hl, m, hf⟩ := typed_struct Tryz.underlying33 h
 have hC : Tryz.prog.cellsOf 33 = 1 := by kernel_rfl
 have hs0 : Tryz.prog.cellsOf 31 = 1 := by kernel_rfl
 rw [hC] at hl
 match cs, hl with
 | [x0], _ =>
   have f0 := hf _ (List.mem_iff_getElem?.2 ⟨0, rfl⟩)
   simp only [hs0, List.drop_zero, List.take_succ_cons, List.take_zero] at f0
   obtain ⟨A0, c0, a0, e0, s0, w0⟩ := typed_sliceF EntryD.cells EntryD.Ok 5 Tryz.underlying31 (by kernel_rfl) (by decide) EntryD.cells_length (fun m es h => EntryD.typed h) f0
   obtain rfl : x0 = _ := by simpa using e0
   exact ⟨⟨a0⟩, ⟨_, _, rfl, s0⟩, w0⟩
set_option maxHeartbeats 2000000 in
set_option maxRecDepth 100000 in
theorem eqLog_same (d : LogD) (A0 : Option Addr) (c0 : Nat) (B0 : Option Addr) (e0 : Nat) (w : World) (s0 : SlF AnyB EntryD.cells 5 w A0 d.entries c0) (t0 : SlF AnyB EntryD.cells 5 w B0 d.entries e0) (hf : ∀ n ∈ d.lens, n ≤ 1048576) :
 Calls Tryz.prog 53 #[.agg #[.slice A0 d.entries.length c0], .agg #[.slice B0 d.entries.length e0]] w fun e w' => e = .returned (.bool true) ∧ Ext w w' := by
 have l_entries : d.entries.length ≤ 1048576 := hf _ (by simp [LogD.lens])
 have S0 := Lib.hid s0; have T0 := Lib.hid t0; clear s0 t0
 clear hf
 obtain ⟨K0, K1, he⟩ := two_new w #[.slice A0 d.entries.length c0] #[.slice B0 d.entries.length e0] 51 51
 go_enter Tryz.func53, Tryz.ntmps53
 obtain ⟨r0, f0⟩ := K0.rules
 obtain ⟨r1, f1⟩ := K1.rules
 go_wp2_with fail
 obtain ⟨g, hg⟩ : ∃ g, g = w.heap.size := ⟨_, rfl⟩
 rw [← hg] at K0 K1
 rw [← hg]
 clear hg r0 f0 r1 f1
 refine (eqEntryS_same A0 B0 c0 e0 d.entries _ (S0.out.ext he).reads (T0.out.ext he).reads l_entries).mono ?_
 rintro e x0 ⟨rfl, hx⟩
 replace K0 := K0.ext hx; replace K1 := K1.ext hx; replace he := he.next hx; clear hx
 obtain ⟨r0, f0⟩ := K0.rules
 obtain ⟨r1, f1⟩ := K1.rules
 go_wp2_with fail
 clear r0 f0 r1 f1
 go_ret
 exact ⟨rfl, he⟩
end Go.Proofs.YtlgdghpnfclgpaaGreat
namespace Go.Proofs.YtlgdghpnfclgpaaGreat
set_option linter.unusedSimpArgs false
open Go.RowKit
set_option linter.unusedVariables false
def ReceiptD.lens (d : ReceiptD) : List Nat := [d.reader.size, d.topic.size]
theorem eqReceipt_same (d : ReceiptD) (w : World) :
 Calls Tryz.prog 113 #[.agg #[.string d.reader, .string d.topic, .int .i64 d.index], .agg #[.string d.reader, .string d.topic, .int .i64 d.index]] w fun e w' => e = .returned (.bool true) ∧ Ext w w' := by
 go_enter Tryz.func113, Tryz.ntmps113
 go_wp2
 go_ret
 exact ⟨rfl, by go_grown⟩
set_option maxHeartbeats 1000000 in
set_option maxRecDepth 100000 in
theorem eqReceiptS_same (A A' : Option Addr) (c c' : Nat) (l : List ReceiptD) (w : World) (hr : ReadsL w w.heap.size ReceiptD.cells 3 A l) (hr' : ReadsL w w.heap.size ReceiptD.cells 3 A' l) (hl : l.length ≤ 1048576) :
 Calls Tryz.prog 54 #[.slice A l.length c, .slice A' l.length c'] w fun e w' => e = .returned (.bool true) ∧ Ext w w' := by
 go_enter Tryz.func54, Tryz.ntmps54
 go_wp2
 go_loopw [5] (fun i wr => ∃ (k : Nat), k ≤ l.length ∧ i = .int .i64 k ∧ Ext w wr) (fun i _ => l.length - (intOf i).toNat)
 case atStart => exact ⟨0, Nat.zero_le _, rfl, Below.refl _ _⟩
 case round =>
  obtain ⟨k, hk, rfl, he⟩ := hrel
  by_cases hlt : k < l.length
  · obtain ⟨b, off, rfl, hb, hc⟩ := (hr.below he).at_ (k := k) hlt
    obtain ⟨b', off', rfl, hb', hc'⟩ := (hr'.below he).at_ (k := k) hlt
    obtain ⟨d, hd⟩ : ∃ d, d = l[k] := ⟨_, rfl⟩
    have hdl : l[k]? = some d := by rw [hd]; exact List.getElem?_eq_getElem hlt
    have c0 := hc 0 _ (flat_at _ 3 ReceiptD.cells_length l k 0 d hdl (by omega))
    have c1 := hc 1 _ (flat_at _ 3 ReceiptD.cells_length l k 1 d hdl (by omega))
    have c2 := hc 2 _ (flat_at _ 3 ReceiptD.cells_length l k 2 d hdl (by omega))
    have b0 := hc' 0 _ (flat_at _ 3 ReceiptD.cells_length l k 0 d hdl (by omega))
    have b1 := hc' 1 _ (flat_at _ 3 ReceiptD.cells_length l k 1 d hdl (by omega))
    have b2 := hc' 2 _ (flat_at _ 3 ReceiptD.cells_length l k 2 d hdl (by omega))
    rw [Nat.add_zero] at c0 b0
    clear hc hc' hd hdl
    go_wp2_with fail
    go_still_tail 8, (by kernel_rfl)
    change wpList _ _ _ _ _ wr.drew
    generalize hw : wr.drew = w2
    have he2 : Ext w w2 := by rw [← hw]; exact he.drew
    clear hw he
    go_wp2_with fail
    refine (eqReceipt_same d _).mono ?_
    rintro e w1 ⟨rfl, h1⟩
    replace he2 := he2.next h1; clear h1 c0 c1 c2 b0 b1 b2
    go_wp2_with fail
    go_roundw
    case rel => exact ⟨k + 1, by omega, by go_num, he2⟩
    case measure => simp [intOf]; omega
  · go_wp2_with fail
    go_ret
    exact ⟨rfl, he⟩
end Go.Proofs.YtlgdghpnfclgpaaGreat
