/-
  What Item is in memory; the laws' own functions at it: walks. Written by program (gen_nest.py). No condition.
-/
import Derived.Test.YtichegndafnjeaaDoorNest
import Derived.Test.YtichegndafnjeaaDoorConvHead
import Derived.Test.YtichegndafnjeaaDoorConvEntry
import Derived.Test.YtichegndafnjeaaDoorConvReceipt
import Derived.Test.YtichegndafnjeaaDoorNString
import Derived.StillTailTactics
namespace Go.Proofs.YtichegndafnjeaaDoor
set_option linter.unusedSimpArgs false
open Go.RowKit
set_option linter.unusedVariables false

structure ItemD where
  kind : Int
  old : HeadD
  head : HeadD
  leaf : Int
  entry : EntryD
  receipt : ReceiptD
  proof : List ByteArray
  more : List ByteArray
def ItemD.In : Rep ItemD := fun p w cs d => ∃ (A0 : Option Addr) (c0 : Nat) (A1 : Option Addr) (c1 : Nat), cs = [.int .i64 d.kind, .int .i64 d.old.number, .int .i64 d.old.size, .string d.old.root, .int .i64 d.old.taken, .string d.old.takenRoot, .int .i64 d.head.number, .int .i64 d.head.size, .string d.head.root, .int .i64 d.head.taken, .string d.head.takenRoot, .int .i64 d.leaf, .string d.entry.topic, .int .i64 d.entry.index, .int .i64 d.entry.time, .string d.entry.key, .string d.entry.body, .string d.receipt.reader, .string d.receipt.topic, .int .i64 d.receipt.index, .slice A0 d.proof.length c0, .slice A1 d.more.length c1] ∧ SlF p sone 1 w A0 d.proof c0 ∧ SlF p sone 1 w A1 d.more c1
theorem ItemD.steady : Steady ItemD.In := ⟨fun h k => by obtain ⟨A0, c0, A1, c1, rfl, s0, s1⟩ := h; exact ⟨_, _, _, _, rfl, s0.keep k, s1.keep k⟩, fun h k => by obtain ⟨A0, c0, A1, c1, rfl, s0, s1⟩ := h; exact ⟨_, _, _, _, rfl, s0.mono k, s1.mono k⟩⟩
theorem ItemD.in_len {p : Nat → Prop} {w : World} {cs : List Value} {d : ItemD} (h : ItemD.In p w cs d) : cs.length = 22 := by obtain ⟨A0, c0, A1, c1, rfl, _⟩ := h; rfl
def ItemD.Ok (d : ItemD) : Prop := (Lit.int .i64 d.kind).wf = true ∧ d.old.Ok ∧ d.head.Ok ∧ (Lit.int .i64 d.leaf).wf = true ∧ d.entry.Ok ∧ d.receipt.Ok ∧ (∀ s ∈ d.proof, s.size ≤ maxLen) ∧ (∀ s ∈ d.more, s.size ≤ maxLen)
def ItemD.lens (d : ItemD) : List Nat := d.old.lens ++ (d.head.lens ++ (d.entry.lens ++ (d.receipt.lens ++ ((d.proof.length :: d.proof.flatMap slens) ++ ((d.more.length :: d.more.flatMap slens) ++ [])))))
set_option maxRecDepth 100000 in
theorem ItemD.typed {w : World} {n : Nat} {cs : List Value} (h : Typed Tryd.prog w n 102 cs) : ∃ d : ItemD, ItemD.In AnyB w cs d ∧ d.Ok := by
  obtain ⟨hl, m, hf⟩ := typed_struct Tryd.underlying102 h
  have hC : Tryd.prog.cellsOf 102 = 22 := by kernel_rfl
  have hs0 : Tryd.prog.cellsOf 3 = 1 := by kernel_rfl
  have hs1 : Tryd.prog.cellsOf 31 = 5 := by kernel_rfl
  have hs2 : Tryd.prog.cellsOf 95 = 5 := by kernel_rfl
  have hs3 : Tryd.prog.cellsOf 100 = 3 := by kernel_rfl
  have hs4 : Tryd.prog.cellsOf 27 = 1 := by kernel_rfl
  rw [hC] at hl
  match cs, hl with
  | [x0, x1, x2, x3, x4, x5, x6, x7, x8, x9, x10, x11, x12, x13, x14, x15, x16, x17, x18, x19, x20, x21], _ =>
    have f0 := hf _ (List.mem_iff_getElem?.2 ⟨0, rfl⟩)
    simp only [hs0, List.drop_zero, List.take_succ_cons, List.take_zero] at f0
    obtain ⟨a0, e0, w0⟩ := typed_int Tryd.underlying3 f0
    obtain rfl : x0 = _ := by simpa using e0
    have f1 := hf _ (List.mem_iff_getElem?.2 ⟨1, rfl⟩)
    simp only [hs1, List.drop_succ_cons, List.drop_zero, List.take_succ_cons, List.take_zero] at f1
    obtain ⟨a1, e1, w1⟩ := HeadD.typed f1
    simp only [HeadD.cells, List.cons.injEq, and_true] at e1
    obtain ⟨rfl, rfl, rfl, rfl, rfl⟩ := e1
    have f2 := hf _ (List.mem_iff_getElem?.2 ⟨2, rfl⟩)
    simp only [hs1, List.drop_succ_cons, List.drop_zero, List.take_succ_cons, List.take_zero] at f2
    obtain ⟨a2, e2, w2⟩ := HeadD.typed f2
    simp only [HeadD.cells, List.cons.injEq, and_true] at e2
    obtain ⟨rfl, rfl, rfl, rfl, rfl⟩ := e2
    have f3 := hf _ (List.mem_iff_getElem?.2 ⟨3, rfl⟩)
    simp only [hs0, List.drop_succ_cons, List.drop_zero, List.take_succ_cons, List.take_zero] at f3
    obtain ⟨a3, e3, w3⟩ := typed_int Tryd.underlying3 f3
    obtain rfl : x11 = _ := by simpa using e3
    have f4 := hf _ (List.mem_iff_getElem?.2 ⟨4, rfl⟩)
    simp only [hs2, List.drop_succ_cons, List.drop_zero, List.take_succ_cons, List.take_zero] at f4
    obtain ⟨a4, e4, w4⟩ := EntryD.typed f4
    simp only [EntryD.cells, List.cons.injEq, and_true] at e4
    obtain ⟨rfl, rfl, rfl, rfl, rfl⟩ := e4
    have f5 := hf _ (List.mem_iff_getElem?.2 ⟨5, rfl⟩)
    simp only [hs3, List.drop_succ_cons, List.drop_zero, List.take_succ_cons, List.take_zero] at f5
    obtain ⟨a5, e5, w5⟩ := ReceiptD.typed f5
    simp only [ReceiptD.cells, List.cons.injEq, and_true] at e5
    obtain ⟨rfl, rfl, rfl⟩ := e5
    have f6 := hf _ (List.mem_iff_getElem?.2 ⟨6, rfl⟩)
    simp only [hs4, List.drop_succ_cons, List.drop_zero, List.take_succ_cons, List.take_zero] at f6
    obtain ⟨A0, c0, a6, e6, s0, w6⟩ := typed_sliceF sone (fun s => s.size ≤ maxLen) 1 Tryd.underlying27 (by kernel_rfl) (by decide) sone_length (fun m es h => string_typed h) f6
    obtain rfl : x20 = _ := by simpa using e6
    have f7 := hf _ (List.mem_iff_getElem?.2 ⟨7, rfl⟩)
    simp only [hs4, List.drop_succ_cons, List.drop_zero, List.take_succ_cons, List.take_zero] at f7
    obtain ⟨A1, c1, a7, e7, s1, w7⟩ := typed_sliceF sone (fun s => s.size ≤ maxLen) 1 Tryd.underlying27 (by kernel_rfl) (by decide) sone_length (fun m es h => string_typed h) f7
    obtain rfl : x21 = _ := by simpa using e7
    exact ⟨⟨a0, a1, a2, a3, a4, a5, a6, a7⟩, ⟨_, _, _, _, rfl, s0, s1⟩, w0, w1, w2, w3, w4, w5, w6, w7⟩
set_option maxHeartbeats 2000000 in
set_option maxRecDepth 100000 in
theorem szItem_any (d : ItemD) (A0 : Option Addr) (c0 : Nat) (A1 : Option Addr) (c1 : Nat) (left : Int) (w : World) (hok : d.Ok) (s0 : SlF AnyB sone 1 w A0 d.proof c0) (s1 : SlF AnyB sone 1 w A1 d.more c1) (h0 : 0 ≤ left) (h1 : left ≤ 1048576) :
    Calls Tryd.prog 36 #[.agg #[.int .i64 d.kind, .int .i64 d.old.number, .int .i64 d.old.size, .string d.old.root, .int .i64 d.old.taken, .string d.old.takenRoot, .int .i64 d.head.number, .int .i64 d.head.size, .string d.head.root, .int .i64 d.head.taken, .string d.head.takenRoot, .int .i64 d.leaf, .string d.entry.topic, .int .i64 d.entry.index, .int .i64 d.entry.time, .string d.entry.key, .string d.entry.body, .string d.receipt.reader, .string d.receipt.topic, .int .i64 d.receipt.index, .slice A0 d.proof.length c0, .slice A1 d.more.length c1], .int .i64 left] w fun e w' => e = .returned (.int .i64 (szL d.lens left)) ∧ Ext w w' := by
  obtain ⟨-, k_old, k_head, -, k_entry, k_receipt, k_proof, k_more⟩ := hok
  have S0 := Lib.hid s0; clear s0
  have S1 := Lib.hid s1; clear s1
  have K_old := Lib.hid k_old; clear k_old
  have K_head := Lib.hid k_head; clear k_head
  have K_entry := Lib.hid k_entry; clear k_entry
  have K_receipt := Lib.hid k_receipt; clear k_receipt
  have K_proof := Lib.hid k_proof; clear k_proof
  have K_more := Lib.hid k_more; clear k_more
  have K0 := Lib.hid (Blk.new w 102 #[.int .i64 d.kind, .int .i64 d.old.number, .int .i64 d.old.size, .string d.old.root, .int .i64 d.old.taken, .string d.old.takenRoot, .int .i64 d.head.number, .int .i64 d.head.size, .string d.head.root, .int .i64 d.head.taken, .string d.head.takenRoot, .int .i64 d.leaf, .string d.entry.topic, .int .i64 d.entry.index, .int .i64 d.entry.time, .string d.entry.key, .string d.entry.body, .string d.receipt.reader, .string d.receipt.topic, .int .i64 d.receipt.index, .slice A0 d.proof.length c0, .slice A1 d.more.length c1])
  have He := Lib.hid (Ext.new (Below.refl w.heap.size w) (.cells #[.int .i64 d.kind, .int .i64 d.old.number, .int .i64 d.old.size, .string d.old.root, .int .i64 d.old.taken, .string d.old.takenRoot, .int .i64 d.head.number, .int .i64 d.head.size, .string d.head.root, .int .i64 d.head.taken, .string d.head.takenRoot, .int .i64 d.leaf, .string d.entry.topic, .int .i64 d.entry.index, .int .i64 d.entry.time, .string d.entry.key, .string d.entry.body, .string d.receipt.reader, .string d.receipt.topic, .int .i64 d.receipt.index, .slice A0 d.proof.length c0, .slice A1 d.more.length c1] 102))
  obtain ⟨fin, hfin⟩ : ∃ fin, fin = szL d.lens left := ⟨_, rfl⟩
  have F : Hid (szL (d.old.lens ++ (d.head.lens ++ (d.entry.lens ++ (d.receipt.lens ++ ((d.proof.length :: d.proof.flatMap slens) ++ ((d.more.length :: d.more.flatMap slens) ++ [])))))) left = fin) := Lib.hid hfin.symm
  rw [← hfin]
  clear hfin
  go_enter Tryd.func36, Tryd.ntmps36
  go_wp2_with fail
  refine (szHead_any d.old left _ K_old.out h0 h1).mono ?_
  rintro e w1 ⟨rfl, hx⟩
  have K1 := K0.out.ext hx; have he := He.out.next hx; clear hx K0 He
  obtain ⟨r0, m0⟩ := K1.rules
  have hp := szL_pos d.old.lens left h0
  have hqq := szL_le d.old.lens left
  by_cases n0 : szL d.old.lens left < 0
  · have E := Lib.hid (show (-1 : Int) = fin by rw [← F.out, szL_append _ _ _ h0, if_pos n0])
    have ev : szL d.old.lens left = -1 := by omega
    clear hp hqq F
    go_wp2_with fail
    go_ret
    exact ⟨ret_int E.out, he⟩
  have F2 : Hid (szL (d.head.lens ++ (d.entry.lens ++ (d.receipt.lens ++ ((d.proof.length :: d.proof.flatMap slens) ++ ((d.more.length :: d.more.flatMap slens) ++ []))))) (szL d.old.lens left) = fin) := Lib.hid (by rw [← F.out, szL_append _ _ _ h0, if_neg n0])
  clear F
  have u0 : 0 ≤ szL d.old.lens left := by omega
  have v0 : szL d.old.lens left ≤ 1048576 := by omega
  clear hp hqq
  generalize szL d.old.lens left = q0 at *
  have F := F2
  clear F2
  go_wp2_with fail
  refine (szHead_any d.head q0 _ K_head.out u0 v0).mono ?_
  rintro e w2 ⟨rfl, hx⟩
  replace K1 := K1.ext hx; replace he := he.next hx; clear hx r0 m0
  obtain ⟨r0, m0⟩ := K1.rules
  have hp := szL_pos d.head.lens q0 u0
  have hqq := szL_le d.head.lens q0
  by_cases n1 : szL d.head.lens q0 < 0
  · have E := Lib.hid (show (-1 : Int) = fin by rw [← F.out, szL_append _ _ _ u0, if_pos n1])
    have ev : szL d.head.lens q0 = -1 := by omega
    clear hp hqq F
    go_wp2_with fail
    go_ret
    exact ⟨ret_int E.out, he⟩
  have F2 : Hid (szL (d.entry.lens ++ (d.receipt.lens ++ ((d.proof.length :: d.proof.flatMap slens) ++ ((d.more.length :: d.more.flatMap slens) ++ [])))) (szL d.head.lens q0) = fin) := Lib.hid (by rw [← F.out, szL_append _ _ _ u0, if_neg n1])
  clear F
  have u1 : 0 ≤ szL d.head.lens q0 := by omega
  have v1 : szL d.head.lens q0 ≤ 1048576 := by omega
  clear hp hqq
  generalize szL d.head.lens q0 = q1 at *
  have F := F2
  clear F2
  go_wp2_with fail
  refine (szEntry_any d.entry q1 _ K_entry.out u1 v1).mono ?_
  rintro e w3 ⟨rfl, hx⟩
  replace K1 := K1.ext hx; replace he := he.next hx; clear hx r0 m0
  obtain ⟨r0, m0⟩ := K1.rules
  have hp := szL_pos d.entry.lens q1 u1
  have hqq := szL_le d.entry.lens q1
  by_cases n2 : szL d.entry.lens q1 < 0
  · have E := Lib.hid (show (-1 : Int) = fin by rw [← F.out, szL_append _ _ _ u1, if_pos n2])
    have ev : szL d.entry.lens q1 = -1 := by omega
    clear hp hqq F
    go_wp2_with fail
    go_ret
    exact ⟨ret_int E.out, he⟩
  have F2 : Hid (szL (d.receipt.lens ++ ((d.proof.length :: d.proof.flatMap slens) ++ ((d.more.length :: d.more.flatMap slens) ++ []))) (szL d.entry.lens q1) = fin) := Lib.hid (by rw [← F.out, szL_append _ _ _ u1, if_neg n2])
  clear F
  have u2 : 0 ≤ szL d.entry.lens q1 := by omega
  have v2 : szL d.entry.lens q1 ≤ 1048576 := by omega
  clear hp hqq
  generalize szL d.entry.lens q1 = q2 at *
  have F := F2
  clear F2
  go_wp2_with fail
  refine (szReceipt_any d.receipt q2 _ K_receipt.out u2 v2).mono ?_
  rintro e w4 ⟨rfl, hx⟩
  replace K1 := K1.ext hx; replace he := he.next hx; clear hx r0 m0
  obtain ⟨r0, m0⟩ := K1.rules
  have hp := szL_pos d.receipt.lens q2 u2
  have hqq := szL_le d.receipt.lens q2
  by_cases n3 : szL d.receipt.lens q2 < 0
  · have E := Lib.hid (show (-1 : Int) = fin by rw [← F.out, szL_append _ _ _ u2, if_pos n3])
    have ev : szL d.receipt.lens q2 = -1 := by omega
    clear hp hqq F
    go_wp2_with fail
    go_ret
    exact ⟨ret_int E.out, he⟩
  have F2 : Hid (szL ((d.proof.length :: d.proof.flatMap slens) ++ ((d.more.length :: d.more.flatMap slens) ++ [])) (szL d.receipt.lens q2) = fin) := Lib.hid (by rw [← F.out, szL_append _ _ _ u2, if_neg n3])
  clear F
  have u3 : 0 ≤ szL d.receipt.lens q2 := by omega
  have v3 : szL d.receipt.lens q2 ≤ 1048576 := by omega
  clear hp hqq
  generalize szL d.receipt.lens q2 = q3 at *
  have F := F2
  clear F2
  go_wp2_with fail
  refine (szStringS_any A0 c0 d.proof q3 _ (S0.out.ext he) K_proof.out u3 v3).mono ?_
  rintro e w5 ⟨rfl, hx⟩
  replace K1 := K1.ext hx; replace he := he.next hx; clear hx r0 m0
  obtain ⟨r0, m0⟩ := K1.rules
  have hp := szL_pos (d.proof.length :: d.proof.flatMap slens) q3 u3
  have hqq := szL_le (d.proof.length :: d.proof.flatMap slens) q3
  by_cases n4 : szL (d.proof.length :: d.proof.flatMap slens) q3 < 0
  · have E := Lib.hid (show (-1 : Int) = fin by rw [← F.out, szL_append _ _ _ u3, if_pos n4])
    have ev : szL (d.proof.length :: d.proof.flatMap slens) q3 = -1 := by omega
    clear hp hqq F
    go_wp2_with fail
    go_ret
    exact ⟨ret_int E.out, he⟩
  have F2 : Hid (szL ((d.more.length :: d.more.flatMap slens) ++ []) (szL (d.proof.length :: d.proof.flatMap slens) q3) = fin) := Lib.hid (by rw [← F.out, szL_append _ _ _ u3, if_neg n4])
  clear F
  have u4 : 0 ≤ szL (d.proof.length :: d.proof.flatMap slens) q3 := by omega
  have v4 : szL (d.proof.length :: d.proof.flatMap slens) q3 ≤ 1048576 := by omega
  clear hp hqq
  generalize szL (d.proof.length :: d.proof.flatMap slens) q3 = q4 at *
  have F := F2
  clear F2
  go_wp2_with fail
  refine (szStringS_any A1 c1 d.more q4 _ (S1.out.ext he) K_more.out u4 v4).mono ?_
  rintro e w6 ⟨rfl, hx⟩
  replace K1 := K1.ext hx; replace he := he.next hx; clear hx r0 m0
  obtain ⟨r0, m0⟩ := K1.rules
  have hp := szL_pos (d.more.length :: d.more.flatMap slens) q4 u4
  have hqq := szL_le (d.more.length :: d.more.flatMap slens) q4
  by_cases n5 : szL (d.more.length :: d.more.flatMap slens) q4 < 0
  · have E := Lib.hid (show (-1 : Int) = fin by rw [← F.out, szL_append _ _ _ u4, if_pos n5])
    have ev : szL (d.more.length :: d.more.flatMap slens) q4 = -1 := by omega
    clear hp hqq F
    go_wp2_with fail
    go_ret
    exact ⟨ret_int E.out, he⟩
  have F2 : Hid (szL ([]) (szL (d.more.length :: d.more.flatMap slens) q4) = fin) := Lib.hid (by rw [← F.out, szL_append _ _ _ u4, if_neg n5])
  clear F
  have u5 : 0 ≤ szL (d.more.length :: d.more.flatMap slens) q4 := by omega
  have v5 : szL (d.more.length :: d.more.flatMap slens) q4 ≤ 1048576 := by omega
  clear hp hqq
  generalize szL (d.more.length :: d.more.flatMap slens) q4 = q5 at *
  have F := F2
  clear F2
  go_wp2_with fail
  go_ret
  exact ⟨ret_int (show q5 = fin from F.out), he⟩
set_option maxHeartbeats 4000000 in
set_option maxRecDepth 100000 in
theorem toItem_any (d : ItemD) (A0 : Option Addr) (c0 : Nat) (A1 : Option Addr) (c1 : Nat) (w : World) (s0 : SlF AnyB sone 1 w A0 d.proof c0) (s1 : SlF AnyB sone 1 w A1 d.more c1) (hf : ∀ n ∈ d.lens, n ≤ 1048576) :
    Calls Tryd.prog 45 #[.agg #[.int .i64 d.kind, .int .i64 d.old.number, .int .i64 d.old.size, .string d.old.root, .int .i64 d.old.taken, .string d.old.takenRoot, .int .i64 d.head.number, .int .i64 d.head.size, .string d.head.root, .int .i64 d.head.taken, .string d.head.takenRoot, .int .i64 d.leaf, .string d.entry.topic, .int .i64 d.entry.index, .int .i64 d.entry.time, .string d.entry.key, .string d.entry.body, .string d.receipt.reader, .string d.receipt.topic, .int .i64 d.receipt.index, .slice A0 d.proof.length c0, .slice A1 d.more.length c1]] w fun e w' => ∃ cs, e = .returned (.agg cs.toArray) ∧ ItemD.In (FromB w.heap.size) w' cs d ∧ Ext w w' := by
  have l_proof : d.proof.length ≤ 1048576 := hf _ (by simp [ItemD.lens])
  have l_more : d.more.length ≤ 1048576 := hf _ (by simp [ItemD.lens])
  have S0 := Lib.hid s0; clear s0
  have S1 := Lib.hid s1; clear s1
  clear hf
  go_enter Tryd.func45, Tryd.ntmps45
  go_wp2_with fail
  have HE : Ext w (((w.alloc (.cells #[.int .i64 d.kind, .int .i64 d.old.number, .int .i64 d.old.size, .string d.old.root, .int .i64 d.old.taken, .string d.old.takenRoot, .int .i64 d.head.number, .int .i64 d.head.size, .string d.head.root, .int .i64 d.head.taken, .string d.head.takenRoot, .int .i64 d.leaf, .string d.entry.topic, .int .i64 d.entry.index, .int .i64 d.entry.time, .string d.entry.key, .string d.entry.body, .string d.receipt.reader, .string d.receipt.topic, .int .i64 d.receipt.index, .slice A0 d.proof.length c0, .slice A1 d.more.length c1] 102)).alloc (.cells #[.int .i64 0, .int .i64 0, .int .i64 0, .string ⟨#[]⟩, .int .i64 0, .string ⟨#[]⟩, .int .i64 0, .int .i64 0, .string ⟨#[]⟩, .int .i64 0, .string ⟨#[]⟩, .int .i64 0, .string ⟨#[]⟩, .int .i64 0, .int .i64 0, .string ⟨#[]⟩, .string ⟨#[]⟩, .string ⟨#[]⟩, .string ⟨#[]⟩, .int .i64 0, .slice none 0 0, .slice none 0 0] 120)).alloc (.cells #[.int .i64 d.kind, .int .i64 0, .int .i64 0, .string ⟨#[]⟩, .int .i64 0, .string ⟨#[]⟩, .int .i64 0, .int .i64 0, .string ⟨#[]⟩, .int .i64 0, .string ⟨#[]⟩, .int .i64 0, .string ⟨#[]⟩, .int .i64 0, .int .i64 0, .string ⟨#[]⟩, .string ⟨#[]⟩, .string ⟨#[]⟩, .string ⟨#[]⟩, .int .i64 0, .slice none 0 0, .slice none 0 0] 120)) := Ext.new (Ext.new (Ext.new (Below.refl _ w) _) _) _
  refine (toHead_any d.old _).mono ?_
  rintro e x1 ⟨rfl, hx⟩
  have B0 := (((Blk.new _ _ _).alloc _).alloc _).ext hx
  have B1 := ((Blk.new _ _ _).alloc _).ext hx
  have B2 := (Blk.new _ _ _).ext hx
  have he := HE.next hx
  have hgs : w.heap.size + 1 + 1 + 1 ≤ w.heap.size + 1 + 1 + 1 := Nat.le_refl _
  simp only [World.size_alloc] at B1 B2
  clear hx HE hgs
  obtain ⟨r0, f0⟩ := B0.rules
  obtain ⟨r2, f2⟩ := B2.rules
  go_upto_region 4 with fail
  have he_ := ext_setCells (W := w) (g := (w.heap.size + 1 + 1)) (by omega) [.int .i64 d.old.number, .int .i64 d.old.size, .string d.old.root, .int .i64 d.old.taken, .string d.old.takenRoot] 1 x1 he
  have C2 := B2.put 1 [.int .i64 d.old.number, .int .i64 d.old.size, .string d.old.root, .int .i64 d.old.taken, .string d.old.takenRoot] #[.int .i64 d.kind, .int .i64 d.old.number, .int .i64 d.old.size, .string d.old.root, .int .i64 d.old.taken, .string d.old.takenRoot, .int .i64 0, .int .i64 0, .string ⟨#[]⟩, .int .i64 0, .string ⟨#[]⟩, .int .i64 0, .string ⟨#[]⟩, .int .i64 0, .int .i64 0, .string ⟨#[]⟩, .string ⟨#[]⟩, .string ⟨#[]⟩, .string ⟨#[]⟩, .int .i64 0, .slice none 0 0, .slice none 0 0] (by simp) rfl
  have C1 := B1.farCells (g' := (w.heap.size + 1 + 1)) (by omega) [.int .i64 d.old.number, .int .i64 d.old.size, .string d.old.root, .int .i64 d.old.taken, .string d.old.takenRoot] 1
  have C0 := B0.farCells (g' := (w.heap.size + 1 + 1)) (by omega) [.int .i64 d.old.number, .int .i64 d.old.size, .string d.old.root, .int .i64 d.old.taken, .string d.old.takenRoot] 1
  clear r0 f0 r2 f2 B0 B1 B2 he
  change Code.wp _ _ _ _ (x1.setCells (w.heap.size + 1 + 1) 1 [.int .i64 d.old.number, .int .i64 d.old.size, .string d.old.root, .int .i64 d.old.taken, .string d.old.takenRoot])
  generalize x1.setCells (w.heap.size + 1 + 1) 1 [.int .i64 d.old.number, .int .i64 d.old.size, .string d.old.root, .int .i64 d.old.taken, .string d.old.takenRoot] = y1 at *
  have B0 := C0; have B1 := C1; have B2 := C2; have he := he_
  clear C0 C1 C2 he_
  obtain ⟨r0, f0⟩ := B0.rules
  obtain ⟨r2, f2⟩ := B2.rules
  go_wp2_with fail
  refine (toHead_any d.head _).mono ?_
  rintro e x2 ⟨rfl, hx⟩
  have hsz : w.heap.size + 1 + 1 + 1 ≤ y1.heap.size := B2.lt
  replace B0 := B0.ext hx; replace B1 := B1.ext hx; replace B2 := B2.ext hx; replace he := he.next hx
  clear hx hsz
  clear r0 f0 r2 f2
  obtain ⟨r0, f0⟩ := B0.rules
  obtain ⟨r2, f2⟩ := B2.rules
  go_upto_region 5 with fail
  have he_ := ext_setCells (W := w) (g := (w.heap.size + 1 + 1)) (by omega) [.int .i64 d.head.number, .int .i64 d.head.size, .string d.head.root, .int .i64 d.head.taken, .string d.head.takenRoot] 6 x2 he
  have C2 := B2.put 6 [.int .i64 d.head.number, .int .i64 d.head.size, .string d.head.root, .int .i64 d.head.taken, .string d.head.takenRoot] #[.int .i64 d.kind, .int .i64 d.old.number, .int .i64 d.old.size, .string d.old.root, .int .i64 d.old.taken, .string d.old.takenRoot, .int .i64 d.head.number, .int .i64 d.head.size, .string d.head.root, .int .i64 d.head.taken, .string d.head.takenRoot, .int .i64 0, .string ⟨#[]⟩, .int .i64 0, .int .i64 0, .string ⟨#[]⟩, .string ⟨#[]⟩, .string ⟨#[]⟩, .string ⟨#[]⟩, .int .i64 0, .slice none 0 0, .slice none 0 0] (by simp) rfl
  have C1 := B1.farCells (g' := (w.heap.size + 1 + 1)) (by omega) [.int .i64 d.head.number, .int .i64 d.head.size, .string d.head.root, .int .i64 d.head.taken, .string d.head.takenRoot] 6
  have C0 := B0.farCells (g' := (w.heap.size + 1 + 1)) (by omega) [.int .i64 d.head.number, .int .i64 d.head.size, .string d.head.root, .int .i64 d.head.taken, .string d.head.takenRoot] 6
  clear r0 f0 r2 f2 B0 B1 B2 he
  change Code.wp _ _ _ _ (x2.setCells (w.heap.size + 1 + 1) 6 [.int .i64 d.head.number, .int .i64 d.head.size, .string d.head.root, .int .i64 d.head.taken, .string d.head.takenRoot])
  generalize x2.setCells (w.heap.size + 1 + 1) 6 [.int .i64 d.head.number, .int .i64 d.head.size, .string d.head.root, .int .i64 d.head.taken, .string d.head.takenRoot] = y2 at *
  have B0 := C0; have B1 := C1; have B2 := C2; have he := he_
  clear C0 C1 C2 he_
  obtain ⟨r0, f0⟩ := B0.rules
  obtain ⟨r2, f2⟩ := B2.rules
  go_upto_region 6 with fail
  have he_ := ext_setCells (W := w) (g := (w.heap.size + 1 + 1)) (by omega) [.int .i64 d.leaf] 11 y2 he
  have C2 := B2.put 11 [.int .i64 d.leaf] #[.int .i64 d.kind, .int .i64 d.old.number, .int .i64 d.old.size, .string d.old.root, .int .i64 d.old.taken, .string d.old.takenRoot, .int .i64 d.head.number, .int .i64 d.head.size, .string d.head.root, .int .i64 d.head.taken, .string d.head.takenRoot, .int .i64 d.leaf, .string ⟨#[]⟩, .int .i64 0, .int .i64 0, .string ⟨#[]⟩, .string ⟨#[]⟩, .string ⟨#[]⟩, .string ⟨#[]⟩, .int .i64 0, .slice none 0 0, .slice none 0 0] (by simp) rfl
  have C1 := B1.farCells (g' := (w.heap.size + 1 + 1)) (by omega) [.int .i64 d.leaf] 11
  have C0 := B0.farCells (g' := (w.heap.size + 1 + 1)) (by omega) [.int .i64 d.leaf] 11
  clear r0 f0 r2 f2 B0 B1 B2 he
  change Code.wp _ _ _ _ (y2.setCells (w.heap.size + 1 + 1) 11 [.int .i64 d.leaf])
  generalize y2.setCells (w.heap.size + 1 + 1) 11 [.int .i64 d.leaf] = y3 at *
  have B0 := C0; have B1 := C1; have B2 := C2; have he := he_
  clear C0 C1 C2 he_
  obtain ⟨r0, f0⟩ := B0.rules
  obtain ⟨r2, f2⟩ := B2.rules
  go_wp2_with fail
  refine (toEntry_any d.entry _).mono ?_
  rintro e x4 ⟨rfl, hx⟩
  have hsz : w.heap.size + 1 + 1 + 1 ≤ y3.heap.size := B2.lt
  replace B0 := B0.ext hx; replace B1 := B1.ext hx; replace B2 := B2.ext hx; replace he := he.next hx
  clear hx hsz
  clear r0 f0 r2 f2
  obtain ⟨r0, f0⟩ := B0.rules
  obtain ⟨r2, f2⟩ := B2.rules
  go_upto_region 7 with fail
  have he_ := ext_setCells (W := w) (g := (w.heap.size + 1 + 1)) (by omega) [.string d.entry.topic, .int .i64 d.entry.index, .int .i64 d.entry.time, .string d.entry.key, .string d.entry.body] 12 x4 he
  have C2 := B2.put 12 [.string d.entry.topic, .int .i64 d.entry.index, .int .i64 d.entry.time, .string d.entry.key, .string d.entry.body] #[.int .i64 d.kind, .int .i64 d.old.number, .int .i64 d.old.size, .string d.old.root, .int .i64 d.old.taken, .string d.old.takenRoot, .int .i64 d.head.number, .int .i64 d.head.size, .string d.head.root, .int .i64 d.head.taken, .string d.head.takenRoot, .int .i64 d.leaf, .string d.entry.topic, .int .i64 d.entry.index, .int .i64 d.entry.time, .string d.entry.key, .string d.entry.body, .string ⟨#[]⟩, .string ⟨#[]⟩, .int .i64 0, .slice none 0 0, .slice none 0 0] (by simp) rfl
  have C1 := B1.farCells (g' := (w.heap.size + 1 + 1)) (by omega) [.string d.entry.topic, .int .i64 d.entry.index, .int .i64 d.entry.time, .string d.entry.key, .string d.entry.body] 12
  have C0 := B0.farCells (g' := (w.heap.size + 1 + 1)) (by omega) [.string d.entry.topic, .int .i64 d.entry.index, .int .i64 d.entry.time, .string d.entry.key, .string d.entry.body] 12
  clear r0 f0 r2 f2 B0 B1 B2 he
  change Code.wp _ _ _ _ (x4.setCells (w.heap.size + 1 + 1) 12 [.string d.entry.topic, .int .i64 d.entry.index, .int .i64 d.entry.time, .string d.entry.key, .string d.entry.body])
  generalize x4.setCells (w.heap.size + 1 + 1) 12 [.string d.entry.topic, .int .i64 d.entry.index, .int .i64 d.entry.time, .string d.entry.key, .string d.entry.body] = y4 at *
  have B0 := C0; have B1 := C1; have B2 := C2; have he := he_
  clear C0 C1 C2 he_
  obtain ⟨r0, f0⟩ := B0.rules
  obtain ⟨r2, f2⟩ := B2.rules
  go_wp2_with fail
  refine (toReceipt_any d.receipt _).mono ?_
  rintro e x5 ⟨rfl, hx⟩
  have hsz : w.heap.size + 1 + 1 + 1 ≤ y4.heap.size := B2.lt
  replace B0 := B0.ext hx; replace B1 := B1.ext hx; replace B2 := B2.ext hx; replace he := he.next hx
  clear hx hsz
  clear r0 f0 r2 f2
  obtain ⟨r0, f0⟩ := B0.rules
  obtain ⟨r2, f2⟩ := B2.rules
  go_upto_region 8 with fail
  have he_ := ext_setCells (W := w) (g := (w.heap.size + 1 + 1)) (by omega) [.string d.receipt.reader, .string d.receipt.topic, .int .i64 d.receipt.index] 17 x5 he
  have C2 := B2.put 17 [.string d.receipt.reader, .string d.receipt.topic, .int .i64 d.receipt.index] #[.int .i64 d.kind, .int .i64 d.old.number, .int .i64 d.old.size, .string d.old.root, .int .i64 d.old.taken, .string d.old.takenRoot, .int .i64 d.head.number, .int .i64 d.head.size, .string d.head.root, .int .i64 d.head.taken, .string d.head.takenRoot, .int .i64 d.leaf, .string d.entry.topic, .int .i64 d.entry.index, .int .i64 d.entry.time, .string d.entry.key, .string d.entry.body, .string d.receipt.reader, .string d.receipt.topic, .int .i64 d.receipt.index, .slice none 0 0, .slice none 0 0] (by simp) rfl
  have C1 := B1.farCells (g' := (w.heap.size + 1 + 1)) (by omega) [.string d.receipt.reader, .string d.receipt.topic, .int .i64 d.receipt.index] 17
  have C0 := B0.farCells (g' := (w.heap.size + 1 + 1)) (by omega) [.string d.receipt.reader, .string d.receipt.topic, .int .i64 d.receipt.index] 17
  clear r0 f0 r2 f2 B0 B1 B2 he
  change Code.wp _ _ _ _ (x5.setCells (w.heap.size + 1 + 1) 17 [.string d.receipt.reader, .string d.receipt.topic, .int .i64 d.receipt.index])
  generalize x5.setCells (w.heap.size + 1 + 1) 17 [.string d.receipt.reader, .string d.receipt.topic, .int .i64 d.receipt.index] = y5 at *
  have B0 := C0; have B1 := C1; have B2 := C2; have he := he_
  clear C0 C1 C2 he_
  obtain ⟨r0, f0⟩ := B0.rules
  obtain ⟨r2, f2⟩ := B2.rules
  go_wp2_with fail
  refine (toStringS_any A0 c0 d.proof _ (S0.out.ext he) l_proof).mono ?_
  rintro e x6 ⟨g0, rfl, hg, bg, hx⟩
  have hsz : w.heap.size + 1 + 1 + 1 ≤ y5.heap.size := B2.lt
  replace B0 := B0.ext hx; replace B1 := B1.ext hx; replace B2 := B2.ext hx; replace he := he.next hx
  have T0 : SlF (FromB (w.heap.size + 1 + 1 + 1)) sone 1 x6 (some ⟨g0, 0, none⟩) d.proof d.proof.length := SlF.new sone_length bg l_proof (show _ ≤ _ by omega)
  clear hx hsz
  clear r0 f0 r2 f2
  obtain ⟨r0, f0⟩ := B0.rules
  obtain ⟨r2, f2⟩ := B2.rules
  go_upto_region 9 with fail
  have he_ := ext_setCells (W := w) (g := (w.heap.size + 1 + 1)) (by omega) [.slice (some ⟨g0, 0, none⟩) d.proof.length d.proof.length] 20 x6 he
  have C2 := B2.put 20 [.slice (some ⟨g0, 0, none⟩) d.proof.length d.proof.length] #[.int .i64 d.kind, .int .i64 d.old.number, .int .i64 d.old.size, .string d.old.root, .int .i64 d.old.taken, .string d.old.takenRoot, .int .i64 d.head.number, .int .i64 d.head.size, .string d.head.root, .int .i64 d.head.taken, .string d.head.takenRoot, .int .i64 d.leaf, .string d.entry.topic, .int .i64 d.entry.index, .int .i64 d.entry.time, .string d.entry.key, .string d.entry.body, .string d.receipt.reader, .string d.receipt.topic, .int .i64 d.receipt.index, .slice (some ⟨g0, 0, none⟩) d.proof.length d.proof.length, .slice none 0 0] (by simp) rfl
  have C1 := B1.farCells (g' := (w.heap.size + 1 + 1)) (by omega) [.slice (some ⟨g0, 0, none⟩) d.proof.length d.proof.length] 20
  have C0 := B0.farCells (g' := (w.heap.size + 1 + 1)) (by omega) [.slice (some ⟨g0, 0, none⟩) d.proof.length d.proof.length] 20
  replace T0 := T0.keep (Keep.setCells (g := (w.heap.size + 1 + 1)) (by unfold FromB; omega) [.slice (some ⟨g0, 0, none⟩) d.proof.length d.proof.length] 20 x6)
  clear r0 f0 r2 f2 B0 B1 B2 he
  change Code.wp _ _ _ _ (x6.setCells (w.heap.size + 1 + 1) 20 [.slice (some ⟨g0, 0, none⟩) d.proof.length d.proof.length])
  generalize x6.setCells (w.heap.size + 1 + 1) 20 [.slice (some ⟨g0, 0, none⟩) d.proof.length d.proof.length] = y6 at *
  have B0 := C0; have B1 := C1; have B2 := C2; have he := he_
  clear C0 C1 C2 he_
  obtain ⟨r0, f0⟩ := B0.rules
  obtain ⟨r2, f2⟩ := B2.rules
  go_wp2_with fail
  refine (toStringS_any A1 c1 d.more _ (S1.out.ext he) l_more).mono ?_
  rintro e x7 ⟨g1, rfl, hg, bg, hx⟩
  have hsz : w.heap.size + 1 + 1 + 1 ≤ y6.heap.size := B2.lt
  replace B0 := B0.ext hx; replace B1 := B1.ext hx; replace B2 := B2.ext hx; replace he := he.next hx
  replace T0 := (T0.ext hx)
  have T1 : SlF (FromB (w.heap.size + 1 + 1 + 1)) sone 1 x7 (some ⟨g1, 0, none⟩) d.more d.more.length := SlF.new sone_length bg l_more (show _ ≤ _ by omega)
  clear hx hsz
  clear r0 f0 r2 f2
  obtain ⟨r0, f0⟩ := B0.rules
  obtain ⟨r2, f2⟩ := B2.rules
  go_upto_region 10 with fail
  have he_ := ext_setCells (W := w) (g := (w.heap.size + 1 + 1)) (by omega) [.slice (some ⟨g1, 0, none⟩) d.more.length d.more.length] 21 x7 he
  have C2 := B2.put 21 [.slice (some ⟨g1, 0, none⟩) d.more.length d.more.length] #[.int .i64 d.kind, .int .i64 d.old.number, .int .i64 d.old.size, .string d.old.root, .int .i64 d.old.taken, .string d.old.takenRoot, .int .i64 d.head.number, .int .i64 d.head.size, .string d.head.root, .int .i64 d.head.taken, .string d.head.takenRoot, .int .i64 d.leaf, .string d.entry.topic, .int .i64 d.entry.index, .int .i64 d.entry.time, .string d.entry.key, .string d.entry.body, .string d.receipt.reader, .string d.receipt.topic, .int .i64 d.receipt.index, .slice (some ⟨g0, 0, none⟩) d.proof.length d.proof.length, .slice (some ⟨g1, 0, none⟩) d.more.length d.more.length] (by simp) rfl
  have C1 := B1.farCells (g' := (w.heap.size + 1 + 1)) (by omega) [.slice (some ⟨g1, 0, none⟩) d.more.length d.more.length] 21
  have C0 := B0.farCells (g' := (w.heap.size + 1 + 1)) (by omega) [.slice (some ⟨g1, 0, none⟩) d.more.length d.more.length] 21
  replace T0 := T0.keep (Keep.setCells (g := (w.heap.size + 1 + 1)) (by unfold FromB; omega) [.slice (some ⟨g1, 0, none⟩) d.more.length d.more.length] 21 x7)
  replace T1 := T1.keep (Keep.setCells (g := (w.heap.size + 1 + 1)) (by unfold FromB; omega) [.slice (some ⟨g1, 0, none⟩) d.more.length d.more.length] 21 x7)
  clear r0 f0 r2 f2 B0 B1 B2 he
  change Code.wp _ _ _ _ (x7.setCells (w.heap.size + 1 + 1) 21 [.slice (some ⟨g1, 0, none⟩) d.more.length d.more.length])
  generalize x7.setCells (w.heap.size + 1 + 1) 21 [.slice (some ⟨g1, 0, none⟩) d.more.length d.more.length] = y7 at *
  have B0 := C0; have B1 := C1; have B2 := C2; have he := he_
  clear C0 C1 C2 he_
  obtain ⟨r0, f0⟩ := B0.rules
  obtain ⟨r2, f2⟩ := B2.rules
  have ld := Lib.hid (B2.range)
  have st := Lib.hid (B1.there 0 22 (by decide))
  have O1 : Hid ((#[.int .i64 d.kind, .int .i64 d.old.number, .int .i64 d.old.size, .string d.old.root, .int .i64 d.old.taken, .string d.old.takenRoot, .int .i64 d.head.number, .int .i64 d.head.size, .string d.head.root, .int .i64 d.head.taken, .string d.head.takenRoot, .int .i64 d.leaf, .string d.entry.topic, .int .i64 d.entry.index, .int .i64 d.entry.time, .string d.entry.key, .string d.entry.body, .string d.receipt.reader, .string d.receipt.topic, .int .i64 d.receipt.index, .slice (some ⟨g0, 0, none⟩) d.proof.length d.proof.length, .slice (some ⟨g1, 0, none⟩) d.more.length d.more.length] : Array Value).all (·.oneCell') = true) := Lib.hid (all_oneCell_toArray (by simp [Value.oneCell']))
  clear r0 f0 r2 f2
  have he_ := ext_setCells (W := w) (g := w.heap.size + 1) (by omega) [.int .i64 d.kind, .int .i64 d.old.number, .int .i64 d.old.size, .string d.old.root, .int .i64 d.old.taken, .string d.old.takenRoot, .int .i64 d.head.number, .int .i64 d.head.size, .string d.head.root, .int .i64 d.head.taken, .string d.head.takenRoot, .int .i64 d.leaf, .string d.entry.topic, .int .i64 d.entry.index, .int .i64 d.entry.time, .string d.entry.key, .string d.entry.body, .string d.receipt.reader, .string d.receipt.topic, .int .i64 d.receipt.index, .slice (some ⟨g0, 0, none⟩) d.proof.length d.proof.length, .slice (some ⟨g1, 0, none⟩) d.more.length d.more.length] 0 y7 he
  have E1 := B1.put 0 [.int .i64 d.kind, .int .i64 d.old.number, .int .i64 d.old.size, .string d.old.root, .int .i64 d.old.taken, .string d.old.takenRoot, .int .i64 d.head.number, .int .i64 d.head.size, .string d.head.root, .int .i64 d.head.taken, .string d.head.takenRoot, .int .i64 d.leaf, .string d.entry.topic, .int .i64 d.entry.index, .int .i64 d.entry.time, .string d.entry.key, .string d.entry.body, .string d.receipt.reader, .string d.receipt.topic, .int .i64 d.receipt.index, .slice (some ⟨g0, 0, none⟩) d.proof.length d.proof.length, .slice (some ⟨g1, 0, none⟩) d.more.length d.more.length] #[.int .i64 d.kind, .int .i64 d.old.number, .int .i64 d.old.size, .string d.old.root, .int .i64 d.old.taken, .string d.old.takenRoot, .int .i64 d.head.number, .int .i64 d.head.size, .string d.head.root, .int .i64 d.head.taken, .string d.head.takenRoot, .int .i64 d.leaf, .string d.entry.topic, .int .i64 d.entry.index, .int .i64 d.entry.time, .string d.entry.key, .string d.entry.body, .string d.receipt.reader, .string d.receipt.topic, .int .i64 d.receipt.index, .slice (some ⟨g0, 0, none⟩) d.proof.length d.proof.length, .slice (some ⟨g1, 0, none⟩) d.more.length d.more.length] (by simp) rfl
  replace T0 := T0.keep (Keep.setCells (g := w.heap.size + 1) (by unfold FromB; omega) [.int .i64 d.kind, .int .i64 d.old.number, .int .i64 d.old.size, .string d.old.root, .int .i64 d.old.taken, .string d.old.takenRoot, .int .i64 d.head.number, .int .i64 d.head.size, .string d.head.root, .int .i64 d.head.taken, .string d.head.takenRoot, .int .i64 d.leaf, .string d.entry.topic, .int .i64 d.entry.index, .int .i64 d.entry.time, .string d.entry.key, .string d.entry.body, .string d.receipt.reader, .string d.receipt.topic, .int .i64 d.receipt.index, .slice (some ⟨g0, 0, none⟩) d.proof.length d.proof.length, .slice (some ⟨g1, 0, none⟩) d.more.length d.more.length] 0 y7)
  replace T1 := T1.keep (Keep.setCells (g := w.heap.size + 1) (by unfold FromB; omega) [.int .i64 d.kind, .int .i64 d.old.number, .int .i64 d.old.size, .string d.old.root, .int .i64 d.old.taken, .string d.old.takenRoot, .int .i64 d.head.number, .int .i64 d.head.size, .string d.head.root, .int .i64 d.head.taken, .string d.head.takenRoot, .int .i64 d.leaf, .string d.entry.topic, .int .i64 d.entry.index, .int .i64 d.entry.time, .string d.entry.key, .string d.entry.body, .string d.receipt.reader, .string d.receipt.topic, .int .i64 d.receipt.index, .slice (some ⟨g0, 0, none⟩) d.proof.length d.proof.length, .slice (some ⟨g1, 0, none⟩) d.more.length d.more.length] 0 y7)
  clear B0 B1 B2 he
  go_wp2_with (first | (refine wpList_load_mid rfl 120 _ rfl (w.heap.size + 1 + 1) 0 rfl [.int .i64 d.kind, .int .i64 d.old.number, .int .i64 d.old.size, .string d.old.root, .int .i64 d.old.taken, .string d.old.takenRoot, .int .i64 d.head.number, .int .i64 d.head.size, .string d.head.root, .int .i64 d.head.taken, .string d.head.takenRoot, .int .i64 d.leaf, .string d.entry.topic, .int .i64 d.entry.index, .int .i64 d.entry.time, .string d.entry.key, .string d.entry.body, .string d.receipt.reader, .string d.receipt.topic, .int .i64 d.receipt.index, .slice (some ⟨g0, 0, none⟩) d.proof.length d.proof.length, .slice (some ⟨g1, 0, none⟩) d.more.length d.more.length] _ ld.out Tryd.underlying120 rfl (by kernel_rfl) ?_) | (refine wpList_store_mid rfl 120 _ _ rfl (w.heap.size + 1) 0 #[.int .i64 d.kind, .int .i64 d.old.number, .int .i64 d.old.size, .string d.old.root, .int .i64 d.old.taken, .string d.old.takenRoot, .int .i64 d.head.number, .int .i64 d.head.size, .string d.head.root, .int .i64 d.head.taken, .string d.head.takenRoot, .int .i64 d.leaf, .string d.entry.topic, .int .i64 d.entry.index, .int .i64 d.entry.time, .string d.entry.key, .string d.entry.body, .string d.receipt.reader, .string d.receipt.topic, .int .i64 d.receipt.index, .slice (some ⟨g0, 0, none⟩) d.proof.length d.proof.length, .slice (some ⟨g1, 0, none⟩) d.more.length d.more.length] rfl rfl st.out (by kernel_rfl) O1.out ?_; change wpList _ _ _ _ _ (y7.setCells (w.heap.size + 1) 0 [.int .i64 d.kind, .int .i64 d.old.number, .int .i64 d.old.size, .string d.old.root, .int .i64 d.old.taken, .string d.old.takenRoot, .int .i64 d.head.number, .int .i64 d.head.size, .string d.head.root, .int .i64 d.head.taken, .string d.head.takenRoot, .int .i64 d.leaf, .string d.entry.topic, .int .i64 d.entry.index, .int .i64 d.entry.time, .string d.entry.key, .string d.entry.body, .string d.receipt.reader, .string d.receipt.topic, .int .i64 d.receipt.index, .slice (some ⟨g0, 0, none⟩) d.proof.length d.proof.length, .slice (some ⟨g1, 0, none⟩) d.more.length d.more.length]); clear ld st O1; generalize y7.setCells (w.heap.size + 1) 0 [.int .i64 d.kind, .int .i64 d.old.number, .int .i64 d.old.size, .string d.old.root, .int .i64 d.old.taken, .string d.old.takenRoot, .int .i64 d.head.number, .int .i64 d.head.size, .string d.head.root, .int .i64 d.head.taken, .string d.head.takenRoot, .int .i64 d.leaf, .string d.entry.topic, .int .i64 d.entry.index, .int .i64 d.entry.time, .string d.entry.key, .string d.entry.body, .string d.receipt.reader, .string d.receipt.topic, .int .i64 d.receipt.index, .slice (some ⟨g0, 0, none⟩) d.proof.length d.proof.length, .slice (some ⟨g1, 0, none⟩) d.more.length d.more.length] = z at *))
  exact ret_row rfl rfl E1 Tryd.underlying120 rfl (by kernel_rfl) rfl ⟨[.int .i64 d.kind, .int .i64 d.old.number, .int .i64 d.old.size, .string d.old.root, .int .i64 d.old.taken, .string d.old.takenRoot, .int .i64 d.head.number, .int .i64 d.head.size, .string d.head.root, .int .i64 d.head.taken, .string d.head.takenRoot, .int .i64 d.leaf, .string d.entry.topic, .int .i64 d.entry.index, .int .i64 d.entry.time, .string d.entry.key, .string d.entry.body, .string d.receipt.reader, .string d.receipt.topic, .int .i64 d.receipt.index, .slice (some ⟨g0, 0, none⟩) d.proof.length d.proof.length, .slice (some ⟨g1, 0, none⟩) d.more.length d.more.length], rfl, ⟨_, _, _, _, rfl, T0.mono (fun b hb => by unfold FromB at *; omega), T1.mono (fun b hb => by unfold FromB at *; omega)⟩, he_⟩
set_option maxHeartbeats 2000000 in
set_option maxRecDepth 100000 in
theorem eqItem_same (d : ItemD) (A0 : Option Addr) (c0 : Nat) (A1 : Option Addr) (c1 : Nat) (B0 : Option Addr) (e0 : Nat) (B1 : Option Addr) (e1 : Nat) (w : World) (s0 : SlF AnyB sone 1 w A0 d.proof c0) (s1 : SlF AnyB sone 1 w A1 d.more c1) (t0 : SlF AnyB sone 1 w B0 d.proof e0) (t1 : SlF AnyB sone 1 w B1 d.more e1) (hf : ∀ n ∈ d.lens, n ≤ 1048576) :
    Calls Tryd.prog 54 #[.agg #[.int .i64 d.kind, .int .i64 d.old.number, .int .i64 d.old.size, .string d.old.root, .int .i64 d.old.taken, .string d.old.takenRoot, .int .i64 d.head.number, .int .i64 d.head.size, .string d.head.root, .int .i64 d.head.taken, .string d.head.takenRoot, .int .i64 d.leaf, .string d.entry.topic, .int .i64 d.entry.index, .int .i64 d.entry.time, .string d.entry.key, .string d.entry.body, .string d.receipt.reader, .string d.receipt.topic, .int .i64 d.receipt.index, .slice A0 d.proof.length c0, .slice A1 d.more.length c1], .agg #[.int .i64 d.kind, .int .i64 d.old.number, .int .i64 d.old.size, .string d.old.root, .int .i64 d.old.taken, .string d.old.takenRoot, .int .i64 d.head.number, .int .i64 d.head.size, .string d.head.root, .int .i64 d.head.taken, .string d.head.takenRoot, .int .i64 d.leaf, .string d.entry.topic, .int .i64 d.entry.index, .int .i64 d.entry.time, .string d.entry.key, .string d.entry.body, .string d.receipt.reader, .string d.receipt.topic, .int .i64 d.receipt.index, .slice B0 d.proof.length e0, .slice B1 d.more.length e1]] w fun e w' => e = .returned (.bool true) ∧ Ext w w' := by
  have l_proof : d.proof.length ≤ 1048576 := hf _ (by simp [ItemD.lens])
  have l_more : d.more.length ≤ 1048576 := hf _ (by simp [ItemD.lens])
  have S0 := Lib.hid s0; have T0 := Lib.hid t0; clear s0 t0
  have S1 := Lib.hid s1; have T1 := Lib.hid t1; clear s1 t1
  clear hf
  obtain ⟨K0, K1, he⟩ := two_new w #[.int .i64 d.kind, .int .i64 d.old.number, .int .i64 d.old.size, .string d.old.root, .int .i64 d.old.taken, .string d.old.takenRoot, .int .i64 d.head.number, .int .i64 d.head.size, .string d.head.root, .int .i64 d.head.taken, .string d.head.takenRoot, .int .i64 d.leaf, .string d.entry.topic, .int .i64 d.entry.index, .int .i64 d.entry.time, .string d.entry.key, .string d.entry.body, .string d.receipt.reader, .string d.receipt.topic, .int .i64 d.receipt.index, .slice A0 d.proof.length c0, .slice A1 d.more.length c1] #[.int .i64 d.kind, .int .i64 d.old.number, .int .i64 d.old.size, .string d.old.root, .int .i64 d.old.taken, .string d.old.takenRoot, .int .i64 d.head.number, .int .i64 d.head.size, .string d.head.root, .int .i64 d.head.taken, .string d.head.takenRoot, .int .i64 d.leaf, .string d.entry.topic, .int .i64 d.entry.index, .int .i64 d.entry.time, .string d.entry.key, .string d.entry.body, .string d.receipt.reader, .string d.receipt.topic, .int .i64 d.receipt.index, .slice B0 d.proof.length e0, .slice B1 d.more.length e1] 120 120
  go_enter Tryd.func54, Tryd.ntmps54
  obtain ⟨r0, f0⟩ := K0.rules
  obtain ⟨r1, f1⟩ := K1.rules
  go_wp2_with fail
  obtain ⟨g, hg⟩ : ∃ g, g = w.heap.size := ⟨_, rfl⟩
  rw [← hg] at K0 K1
  rw [← hg]
  clear hg r0 f0 r1 f1
  refine (eqHead_same d.old _).mono ?_
  rintro e x1 ⟨rfl, hx⟩
  replace K0 := K0.ext hx; replace K1 := K1.ext hx; replace he := he.next hx; clear hx
  obtain ⟨r0, f0⟩ := K0.rules
  obtain ⟨r1, f1⟩ := K1.rules
  go_wp2_with fail
  clear r0 f0 r1 f1
  refine (eqHead_same d.head _).mono ?_
  rintro e x2 ⟨rfl, hx⟩
  replace K0 := K0.ext hx; replace K1 := K1.ext hx; replace he := he.next hx; clear hx
  obtain ⟨r0, f0⟩ := K0.rules
  obtain ⟨r1, f1⟩ := K1.rules
  go_wp2_with fail
  clear r0 f0 r1 f1
  refine (eqEntry_same d.entry _).mono ?_
  rintro e x4 ⟨rfl, hx⟩
  replace K0 := K0.ext hx; replace K1 := K1.ext hx; replace he := he.next hx; clear hx
  obtain ⟨r0, f0⟩ := K0.rules
  obtain ⟨r1, f1⟩ := K1.rules
  go_wp2_with fail
  clear r0 f0 r1 f1
  refine (eqReceipt_same d.receipt _).mono ?_
  rintro e x5 ⟨rfl, hx⟩
  replace K0 := K0.ext hx; replace K1 := K1.ext hx; replace he := he.next hx; clear hx
  obtain ⟨r0, f0⟩ := K0.rules
  obtain ⟨r1, f1⟩ := K1.rules
  go_wp2_with fail
  clear r0 f0 r1 f1
  refine (eqStringS_slf A0 B0 c0 e0 d.proof _ (S0.out.ext he) (T0.out.ext he) l_proof).mono ?_
  rintro e x6 ⟨rfl, hx⟩
  replace K0 := K0.ext hx; replace K1 := K1.ext hx; replace he := he.next hx; clear hx
  obtain ⟨r0, f0⟩ := K0.rules
  obtain ⟨r1, f1⟩ := K1.rules
  go_wp2_with fail
  clear r0 f0 r1 f1
  refine (eqStringS_slf A1 B1 c1 e1 d.more _ (S1.out.ext he) (T1.out.ext he) l_more).mono ?_
  rintro e x7 ⟨rfl, hx⟩
  replace K0 := K0.ext hx; replace K1 := K1.ext hx; replace he := he.next hx; clear hx
  obtain ⟨r0, f0⟩ := K0.rules
  obtain ⟨r1, f1⟩ := K1.rules
  go_wp2_with fail
  clear r0 f0 r1 f1
  go_ret
  exact ⟨rfl, he⟩
set_option maxHeartbeats 2000000 in
set_option maxRecDepth 100000 in
theorem szItemS_any (A : Option Addr) (c : Nat) (l : List ItemD) (left : Int) (w : World) (hr : SlN AnyB ItemD.In 22 w A l c) (hok : ∀ d ∈ l, d.Ok) (h0 : 0 ≤ left) (h1 : left ≤ 1048576) :
    Calls Tryd.prog 13 #[.slice A l.length c, .int .i64 left] w fun e w' => e = .returned (.int .i64 (szL (l.length :: l.flatMap ItemD.lens) left)) ∧ Ext w w' := by
  have hl := hr.len
  unfold maxLen at hl
  have Hok := Lib.hid hok; clear hok
  have Hr := Lib.hid hr; clear hr
  by_cases c0 : left - (l.length : Int) < 0
  · go_enter Tryd.func13, Tryd.ntmps13
    go_wp2_with fail
    go_ret
    exact ⟨ret_int (by simp only [szL]; rw [if_pos c0]), by go_grown⟩
  · obtain ⟨fin, hfin⟩ : ∃ fin, fin = szL (l.length :: l.flatMap ItemD.lens) left := ⟨_, rfl⟩
    have Hi : SzInv ItemD.lens l fin 0 (left - l.length) := by
      refine ⟨by omega, by omega, ?_⟩
      rw [hfin]; simp only [szL, List.drop_zero]; rw [if_neg c0]
    rw [← hfin]; clear hfin
    go_enter Tryd.func13, Tryd.ntmps13
    go_wp2_with fail
    go_loopw [1, 5] (fun r i wr => ∃ (k : Nat) (q : Int), k ≤ l.length ∧ i = .int .i64 k ∧ r = .int .i64 q ∧ 0 ≤ q ∧ q ≤ 1048576 ∧ SzInv ItemD.lens l fin k q ∧ Ext w wr) (fun _ i _ => l.length - (intOf i).toNat)
    case atStart => exact ⟨0, _, Nat.zero_le _, rfl, rfl, by omega, by omega, Hi, Below.refl _ _⟩
    case round =>
      obtain ⟨k, q, hk, rfl, rfl, q0, q1, hi, he⟩ := hrel
      by_cases hlt : k < l.length
      · obtain ⟨p1, p2⟩ := hi.step hlt
        obtain ⟨b, off, cs, rfl, hb, hcl, hR, hc⟩ := (SlN.ext ItemD.steady Hr.out he).at_ (k := k) hlt
        obtain ⟨d, hd⟩ : ∃ d, d = l[k] := ⟨_, rfl⟩
        have hdo : d.Ok := Hok.out d (by rw [hd]; exact List.getElem_mem hlt)
        rw [← hd] at p1 p2 hR
        obtain ⟨A0, c0, A1, c1, rfl, s0, s1⟩ := hR
        have Y0 := Lib.hid (cells_range (n := 22) rfl hc)
        clear hc hd hcl
        have Q1 := Lib.hid p1; have Q2 := Lib.hid p2; clear p1 p2
        have S0 := Lib.hid s0; clear s0
        have S1 := Lib.hid s1; clear s1
        go_wp2_with (refine wpList_load_mid rfl 102 _ rfl b (off + k * 22) rfl [.int .i64 d.kind, .int .i64 d.old.number, .int .i64 d.old.size, .string d.old.root, .int .i64 d.old.taken, .string d.old.takenRoot, .int .i64 d.head.number, .int .i64 d.head.size, .string d.head.root, .int .i64 d.head.taken, .string d.head.takenRoot, .int .i64 d.leaf, .string d.entry.topic, .int .i64 d.entry.index, .int .i64 d.entry.time, .string d.entry.key, .string d.entry.body, .string d.receipt.reader, .string d.receipt.topic, .int .i64 d.receipt.index, .slice A0 d.proof.length c0, .slice A1 d.more.length c1] _ Y0.out Tryd.underlying102 rfl (by kernel_rfl) ?_)
        refine (szItem_any d A0 c0 A1 c1 q _ hdo S0.out S1.out q0 q1).mono ?_
        rintro e w1 ⟨rfl, h1⟩
        replace he := he.next h1; clear h1
        have hp := szL_pos d.lens q q0
        have hq := szL_le d.lens q
        by_cases hn : szL d.lens q < 0
        · have E1 := Lib.hid (Q1.out hn)
          have e2 : szL d.lens q = -1 := by rcases hp with h | h <;> omega
          clear hp hq Q1 Q2 Hi hi
          go_wp2_with fail
          go_ret
          exact ⟨ret_int E1.out.symm, he⟩
        · have H2 := Lib.hid (Q2.out (by omega))
          have n0 : 0 ≤ szL d.lens q := by omega
          have n1 : szL d.lens q ≤ 1048576 := by rcases hq with h | h <;> omega
          clear hp hq Q1 Q2 Hi hi
          go_wp2_with fail
          go_roundw
          case rel => exact ⟨k + 1, _, by omega, by go_num, rfl, n0, n1, H2.out, he⟩
          case measure => simp [intOf]; omega
      · have E1 := Lib.hid (hi.done (by omega))
        clear Hi hi
        go_wp2_with fail
        go_ret
        exact ⟨ret_int E1.out, he⟩
set_option maxHeartbeats 2000000 in
set_option maxRecDepth 100000 in
theorem toItemS_any (A : Option Addr) (c : Nat) (l : List ItemD) (w : World) (hr : SlN AnyB ItemD.In 22 w A l c) (hl : l.length ≤ 1048576) (hf : ∀ x ∈ l, ∀ n ∈ x.lens, n ≤ 1048576) :
    Calls Tryd.prog 21 #[.slice A l.length c] w fun e w' => ∃ g, e = .returned (.slice (some ⟨g, 0, none⟩) l.length l.length) ∧ w.heap.size ≤ g ∧ SlN (FromB w.heap.size) ItemD.In 22 w' (some ⟨g, 0, none⟩) l l.length ∧ Ext w w' := by
  obtain ⟨Z, hZ, hmk⟩ := make_any (P := Tryd.prog) (t := 59) (e := 120) (size := 22) (bytes := 280) l.length Tryd.underlying59 (by kernel_rfl) (by omega) hl
  have HZ := Lib.hid hZ; clear hZ
  have Hr := Lib.hid hr; clear hr
  have Hf := Lib.hid hf; clear hf
  have Hs := Lib.hid (FilledN.start ItemD.In 22 120 l w Z)
  have He := Lib.hid (Ext.new (Below.refl w.heap.size w) (.cells Z 120))
  go_enter Tryd.func21, Tryd.ntmps21
  go_wp2_with fail
  obtain ⟨g, hg⟩ : ∃ g, g = w.heap.size := ⟨_, rfl⟩
  rw [← hg]
  rw [← hg] at Hs
  have hg0 : w.heap.size ≤ g := by omega
  clear hg
  go_loopw [4] (fun i wr => ∃ (k : Nat), k ≤ l.length ∧ i = .int .i64 k ∧ FilledN ItemD.In 22 120 l g Z k wr ∧ Ext w wr) (fun i _ => l.length - (intOf i).toNat)
  case atStart => exact ⟨0, Nat.zero_le _, rfl, Hs.out, He.out⟩
  case round =>
    obtain ⟨k, hk, rfl, hi, he⟩ := hrel
    clear Hs He
    by_cases hlt : k < l.length
    · obtain ⟨b, off, cs, rfl, hb, hcl, hR, hc⟩ := (SlN.ext ItemD.steady Hr.out he).at_ (k := k) hlt
      obtain ⟨d, hd⟩ : ∃ d, d = l[k] := ⟨_, rfl⟩
      have hfd := Hf.out _ (List.getElem_mem hlt)
      rw [← hd] at hR hfd
      obtain ⟨A0, c0, A1, c1, rfl, s0, s1⟩ := hR
      have Y0 := Lib.hid (cells_range (n := 22) rfl hc)
      have Hd := Lib.hid hd
      clear hc hd hcl
      have hgl := hi.lt
      have KI := Lib.hid hi; clear hi
      have S0 := Lib.hid s0; clear s0
      have S1 := Lib.hid s1; clear s1
      have Hfd := Lib.hid hfd; clear hfd
      go_wp2_with (refine wpList_load_mid rfl 102 _ rfl b (off + k * 22) rfl [.int .i64 d.kind, .int .i64 d.old.number, .int .i64 d.old.size, .string d.old.root, .int .i64 d.old.taken, .string d.old.takenRoot, .int .i64 d.head.number, .int .i64 d.head.size, .string d.head.root, .int .i64 d.head.taken, .string d.head.takenRoot, .int .i64 d.leaf, .string d.entry.topic, .int .i64 d.entry.index, .int .i64 d.entry.time, .string d.entry.key, .string d.entry.body, .string d.receipt.reader, .string d.receipt.topic, .int .i64 d.receipt.index, .slice A0 d.proof.length c0, .slice A1 d.more.length c1] _ Y0.out Tryd.underlying102 rfl (by kernel_rfl) ?_)
      refine (toItem_any d A0 c0 A1 c1 _ S0.out S1.out Hfd.out).mono ?_
      rintro e w1 ⟨cs, rfl, hin, h1⟩
      have hi := FilledN.ext ItemD.steady KI.out h1
      replace he := he.next h1
      clear h1 KI Y0
      have hin2 : ItemD.In (FromB (g + 1)) w1 cs l[k] := by rw [← Hd.out]; exact ItemD.steady.mono hin (fun b hb => by unfold FromB at *; omega)
      have Hn := Lib.hid (hi.step ItemD.steady HZ.out hlt (ItemD.in_len hin2) hin2)
      have ht := hi.there HZ.out hlt
      obtain ⟨A0, c0, A1, c1, rfl, _⟩ := hin
      clear hin2
      have hz := hi.frozen
      have Z0 := Lib.hid ht
      clear hz
      have O1 : Hid ((#[.int .i64 d.kind, .int .i64 d.old.number, .int .i64 d.old.size, .string d.old.root, .int .i64 d.old.taken, .string d.old.takenRoot, .int .i64 d.head.number, .int .i64 d.head.size, .string d.head.root, .int .i64 d.head.taken, .string d.head.takenRoot, .int .i64 d.leaf, .string d.entry.topic, .int .i64 d.entry.index, .int .i64 d.entry.time, .string d.entry.key, .string d.entry.body, .string d.receipt.reader, .string d.receipt.topic, .int .i64 d.receipt.index, .slice A0 d.proof.length c0, .slice A1 d.more.length c1] : Array Value).all (·.oneCell') = true) := Lib.hid (all_oneCell_toArray (by simp [Value.oneCell']))
      clear ht hi
      have He2 := Lib.hid (ext_setCells (g := g) (W := w) hg0 [.int .i64 d.kind, .int .i64 d.old.number, .int .i64 d.old.size, .string d.old.root, .int .i64 d.old.taken, .string d.old.takenRoot, .int .i64 d.head.number, .int .i64 d.head.size, .string d.head.root, .int .i64 d.head.taken, .string d.head.takenRoot, .int .i64 d.leaf, .string d.entry.topic, .int .i64 d.entry.index, .int .i64 d.entry.time, .string d.entry.key, .string d.entry.body, .string d.receipt.reader, .string d.receipt.topic, .int .i64 d.receipt.index, .slice A0 d.proof.length c0, .slice A1 d.more.length c1] (k * 22) w1 he)
      go_wp2_with (refine wpList_store_mid rfl 120 _ _ rfl g (k * 22) #[.int .i64 d.kind, .int .i64 d.old.number, .int .i64 d.old.size, .string d.old.root, .int .i64 d.old.taken, .string d.old.takenRoot, .int .i64 d.head.number, .int .i64 d.head.size, .string d.head.root, .int .i64 d.head.taken, .string d.head.takenRoot, .int .i64 d.leaf, .string d.entry.topic, .int .i64 d.entry.index, .int .i64 d.entry.time, .string d.entry.key, .string d.entry.body, .string d.receipt.reader, .string d.receipt.topic, .int .i64 d.receipt.index, .slice A0 d.proof.length c0, .slice A1 d.more.length c1] rfl rfl Z0.out (by kernel_rfl) O1.out ?_; change wpList _ _ _ _ _ (w1.setCells g (k * 22) [.int .i64 d.kind, .int .i64 d.old.number, .int .i64 d.old.size, .string d.old.root, .int .i64 d.old.taken, .string d.old.takenRoot, .int .i64 d.head.number, .int .i64 d.head.size, .string d.head.root, .int .i64 d.head.taken, .string d.head.takenRoot, .int .i64 d.leaf, .string d.entry.topic, .int .i64 d.entry.index, .int .i64 d.entry.time, .string d.entry.key, .string d.entry.body, .string d.receipt.reader, .string d.receipt.topic, .int .i64 d.receipt.index, .slice A0 d.proof.length c0, .slice A1 d.more.length c1]); generalize w1.setCells g (k * 22) [.int .i64 d.kind, .int .i64 d.old.number, .int .i64 d.old.size, .string d.old.root, .int .i64 d.old.taken, .string d.old.takenRoot, .int .i64 d.head.number, .int .i64 d.head.size, .string d.head.root, .int .i64 d.head.taken, .string d.head.takenRoot, .int .i64 d.leaf, .string d.entry.topic, .int .i64 d.entry.index, .int .i64 d.entry.time, .string d.entry.key, .string d.entry.body, .string d.receipt.reader, .string d.receipt.topic, .int .i64 d.receipt.index, .slice A0 d.proof.length c0, .slice A1 d.more.length c1] = w2 at Hn He2 ⊢)
      go_roundw
      case rel => exact ⟨k + 1, by omega, by go_num, Hn.out, He2.out⟩
      case measure => simp [intOf]; omega
    · have Hf2 := Lib.hid (hi.done ItemD.steady HZ.out (by omega) hl (p := FromB w.heap.size) (fun b hb => by unfold FromB; omega))
      clear hi
      go_wp2_with fail
      go_ret
      exact ⟨g, rfl, hg0, Hf2.out, he⟩
set_option maxHeartbeats 2000000 in
set_option maxRecDepth 100000 in
theorem eqItemS_same (A A' : Option Addr) (c c' : Nat) (l : List ItemD) (w : World) (hr : SlN AnyB ItemD.In 22 w A l c) (hr' : SlN AnyB ItemD.In 22 w A' l c') (hl : l.length ≤ 1048576) (hf : ∀ x ∈ l, ∀ n ∈ x.lens, n ≤ 1048576) :
    Calls Tryd.prog 28 #[.slice A l.length c, .slice A' l.length c'] w fun e w' => e = .returned (.bool true) ∧ Ext w w' := by
  have Hr := Lib.hid hr; clear hr
  have Hr2 := Lib.hid hr'; clear hr'
  have Hf := Lib.hid hf; clear hf
  go_enter Tryd.func28, Tryd.ntmps28
  go_wp2_with fail
  go_loopw [5] (fun i wr => ∃ (k : Nat), k ≤ l.length ∧ i = .int .i64 k ∧ Ext w wr) (fun i _ => l.length - (intOf i).toNat)
  case atStart => exact ⟨0, Nat.zero_le _, rfl, Below.refl _ _⟩
  case round =>
    obtain ⟨k, hk, rfl, he⟩ := hrel
    by_cases hlt : k < l.length
    · obtain ⟨b, off, cs, rfl, hb, hcl, hR, hc⟩ := (SlN.ext ItemD.steady Hr.out he).at_ (k := k) hlt
      obtain ⟨b', off', cs', rfl, hb', hcl', hR', hc'⟩ := (SlN.ext ItemD.steady Hr2.out he).at_ (k := k) hlt
      obtain ⟨d, hd⟩ : ∃ d, d = l[k] := ⟨_, rfl⟩
      have Hfd := Lib.hid (Hf.out _ (List.getElem_mem hlt))
      rw [← hd] at hR hR' Hfd
      obtain ⟨A0, c0, A1, c1, rfl, s0, s1⟩ := hR
      obtain ⟨B0, e0, B1, e1, rfl, t0, t1⟩ := hR'
      have Y0 := cells_range (n := 22) rfl hc
      have U0 := cells_range (n := 22) rfl hc'
      clear hc hc' hd hcl hcl'
      have S0 := Lib.hid s0; have T0 := Lib.hid t0; clear s0 t0
      have S1 := Lib.hid s1; have T1 := Lib.hid t1; clear s1 t1
      have he0 : Ext wr wr.drew := ⟨rfl, rfl, rfl, Nat.le_refl _, fun _ _ => rfl⟩
      have Y1 := Lib.hid (range_ext Y0 he0 hb); have U1 := Lib.hid (range_ext U0 he0 hb')
      clear Y0 U0
      go_wp2_with fail
      refine wp_region_still_tail 8 (by kernel_rfl) (by kernel_rfl) ?_
      simp only [List.take_succ_cons, List.take_zero, List.drop_succ_cons, List.drop_zero]
      still_step; still_step; still_step
      refine wpStill_load_mid (by rfl) 120 _ rfl b (off + k * 22) rfl [.int .i64 d.kind, .int .i64 d.old.number, .int .i64 d.old.size, .string d.old.root, .int .i64 d.old.taken, .string d.old.takenRoot, .int .i64 d.head.number, .int .i64 d.head.size, .string d.head.root, .int .i64 d.head.taken, .string d.head.takenRoot, .int .i64 d.leaf, .string d.entry.topic, .int .i64 d.entry.index, .int .i64 d.entry.time, .string d.entry.key, .string d.entry.body, .string d.receipt.reader, .string d.receipt.topic, .int .i64 d.receipt.index, .slice A0 d.proof.length c0, .slice A1 d.more.length c1] _ Y1.out Tryd.underlying120 rfl (by kernel_rfl) ?_
      simp only [Act.put, List.setIfInBounds_toArray, List.set_cons_zero, List.set_cons_succ]
      still_step; still_step; still_step
      refine wpStill_load_mid (by rfl) 120 _ rfl b' (off' + k * 22) rfl [.int .i64 d.kind, .int .i64 d.old.number, .int .i64 d.old.size, .string d.old.root, .int .i64 d.old.taken, .string d.old.takenRoot, .int .i64 d.head.number, .int .i64 d.head.size, .string d.head.root, .int .i64 d.head.taken, .string d.head.takenRoot, .int .i64 d.leaf, .string d.entry.topic, .int .i64 d.entry.index, .int .i64 d.entry.time, .string d.entry.key, .string d.entry.body, .string d.receipt.reader, .string d.receipt.topic, .int .i64 d.receipt.index, .slice B0 d.proof.length e0, .slice B1 d.more.length e1] _ U1.out Tryd.underlying120 rfl (by kernel_rfl) ?_
      simp only [Act.put, List.setIfInBounds_toArray, List.set_cons_zero, List.set_cons_succ]
      refine wpStill_nil ?_
      change wpList _ _ _ _ _ wr.drew
      generalize hw : wr.drew = w2 at *
      have he2 : Ext w w2 := he.next he0
      clear hw he
      go_wp2_with fail
      refine (eqItem_same d A0 c0 A1 c1 B0 e0 B1 e1 _ (S0.out.ext he0) (S1.out.ext he0) (T0.out.ext he0) (T1.out.ext he0) Hfd.out).mono ?_
      rintro e w1 ⟨rfl, h1⟩
      replace he2 := he2.next h1; clear h1 he0 Y1 U1
      go_wp2_with fail
      go_roundw
      case rel => exact ⟨k + 1, by omega, by go_num, he2⟩
      case measure => simp [intOf]; omega
    · go_wp2_with fail
      go_ret
      exact ⟨rfl, he⟩
end Go.Proofs.YtichegndafnjeaaDoor
