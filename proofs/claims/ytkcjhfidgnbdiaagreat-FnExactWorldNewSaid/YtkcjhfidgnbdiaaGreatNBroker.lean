/-
  What Broker is in memory; the laws' own functions at it: walks. Written by program (gen_nest.py). No condition.
-/
import Derived.Test.YtkcjhfidgnbdiaaGreatNest
import Derived.Test.YtkcjhfidgnbdiaaGreatNRange
import Derived.Test.YtkcjhfidgnbdiaaGreatConvReceipt
import Derived.Test.YtkcjhfidgnbdiaaGreatConvHead
import Derived.Test.YtkcjhfidgnbdiaaGreatNSeal
import Derived.Test.YtkcjhfidgnbdiaaGreatNamesOk
import Derived.StillTailTactics
namespace Go.Proofs.YtkcjhfidgnbdiaaGreat
set_option linter.unusedSimpArgs false
open Go.RowKit
set_option linter.unusedVariables false

structure BrokerD where
  width : Int
  log : LogD
  receipts : List ReceiptD
  heads : List HeadD
  sealed : SealD
def BrokerD.In : Rep BrokerD := fun p w cs d => ∃ (A0 : Option Addr) (c0 : Nat) (A1 : Option Addr) (c1 : Nat) (A2 : Option Addr) (c2 : Nat) (A3 : Option Addr) (c3 : Nat) (A4 : Option Addr) (c4 : Nat), cs = [.int .i64 d.width, .slice A0 d.log.entries.length c0, .slice A1 d.receipts.length c1, .slice A2 d.heads.length c2, .int .i64 d.sealed.leaves.size, .slice A3 d.sealed.leaves.peaks.length c3, .int .i64 d.sealed.taken.size, .slice A4 d.sealed.taken.peaks.length c4, .int .i64 d.sealed.head.number, .int .i64 d.sealed.head.size, .string d.sealed.head.root, .int .i64 d.sealed.head.taken, .string d.sealed.head.takenRoot] ∧ SlF p EntryD.cells 5 w A0 d.log.entries c0 ∧ SlF p ReceiptD.cells 3 w A1 d.receipts c1 ∧ SlF p HeadD.cells 5 w A2 d.heads c2 ∧ SlF p sone 1 w A3 d.sealed.leaves.peaks c3 ∧ SlF p sone 1 w A4 d.sealed.taken.peaks c4
theorem BrokerD.steady : Steady BrokerD.In := ⟨fun h k => by obtain ⟨A0, c0, A1, c1, A2, c2, A3, c3, A4, c4, rfl, s0, s1, s2, s3, s4⟩ := h; exact ⟨_, _, _, _, _, _, _, _, _, _, rfl, s0.keep k, s1.keep k, s2.keep k, s3.keep k, s4.keep k⟩, fun h k => by obtain ⟨A0, c0, A1, c1, A2, c2, A3, c3, A4, c4, rfl, s0, s1, s2, s3, s4⟩ := h; exact ⟨_, _, _, _, _, _, _, _, _, _, rfl, s0.mono k, s1.mono k, s2.mono k, s3.mono k, s4.mono k⟩⟩
theorem BrokerD.in_len {p : Nat → Prop} {w : World} {cs : List Value} {d : BrokerD} (h : BrokerD.In p w cs d) : cs.length = 13 := by obtain ⟨A0, c0, A1, c1, A2, c2, A3, c3, A4, c4, rfl, _⟩ := h; rfl
def BrokerD.Ok (d : BrokerD) : Prop := (Lit.int .i64 d.width).wf = true ∧ d.log.Ok ∧ (∀ x ∈ d.receipts, x.Ok) ∧ (∀ x ∈ d.heads, x.Ok) ∧ d.sealed.Ok
def BrokerD.lens (d : BrokerD) : List Nat := d.log.lens ++ ((d.receipts.length :: d.receipts.flatMap ReceiptD.lens) ++ ((d.heads.length :: d.heads.flatMap HeadD.lens) ++ (d.sealed.lens ++ [])))
set_option maxRecDepth 100000 in
theorem BrokerD.typed {w : World} {n : Nat} {cs : List Value} (h : Typed Tryz.prog w n 63 cs) : ∃ d : BrokerD, BrokerD.In AnyB w cs d ∧ d.Ok := by
  obtain ⟨hl, m, hf⟩ := typed_struct Tryz.underlying63 h
  have hC : Tryz.prog.cellsOf 63 = 13 := by kernel_rfl
  have hs0 : Tryz.prog.cellsOf 3 = 1 := by kernel_rfl
  have hs1 : Tryz.prog.cellsOf 55 = 1 := by kernel_rfl
  have hs2 : Tryz.prog.cellsOf 56 = 1 := by kernel_rfl
  have hs3 : Tryz.prog.cellsOf 57 = 1 := by kernel_rfl
  have hs4 : Tryz.prog.cellsOf 61 = 9 := by kernel_rfl
  rw [hC] at hl
  match cs, hl with
  | [x0, x1, x2, x3, x4, x5, x6, x7, x8, x9, x10, x11, x12], _ =>
    have f0 := hf _ (List.mem_iff_getElem?.2 ⟨0, rfl⟩)
    simp only [hs0, List.drop_zero, List.take_succ_cons, List.take_zero] at f0
    obtain ⟨a0, e0, w0⟩ := typed_int Tryz.underlying3 f0
    obtain rfl : x0 = _ := by simpa using e0
    have f1 := hf _ (List.mem_iff_getElem?.2 ⟨1, rfl⟩)
    simp only [hs1, List.drop_succ_cons, List.drop_zero, List.take_succ_cons, List.take_zero] at f1
    obtain ⟨a1, i1, w1⟩ := LogD.typed f1
    obtain ⟨A0, c0, e1, s0⟩ := i1
    simp only [List.cons.injEq, and_true] at e1
    obtain rfl := e1
    have f2 := hf _ (List.mem_iff_getElem?.2 ⟨2, rfl⟩)
    simp only [hs2, List.drop_succ_cons, List.drop_zero, List.take_succ_cons, List.take_zero] at f2
    obtain ⟨A1, c1, a2, e2, s1, w2⟩ := typed_sliceF ReceiptD.cells ReceiptD.Ok 3 Tryz.underlying56 (by kernel_rfl) (by decide) ReceiptD.cells_length (fun m es h => ReceiptD.typed h) f2
    obtain rfl : x2 = _ := by simpa using e2
    have f3 := hf _ (List.mem_iff_getElem?.2 ⟨3, rfl⟩)
    simp only [hs3, List.drop_succ_cons, List.drop_zero, List.take_succ_cons, List.take_zero] at f3
    obtain ⟨A2, c2, a3, e3, s2, w3⟩ := typed_sliceF HeadD.cells HeadD.Ok 5 Tryz.underlying57 (by kernel_rfl) (by decide) HeadD.cells_length (fun m es h => HeadD.typed h) f3
    obtain rfl : x3 = _ := by simpa using e3
    have f4 := hf _ (List.mem_iff_getElem?.2 ⟨4, rfl⟩)
    simp only [hs4, List.drop_succ_cons, List.drop_zero, List.take_succ_cons, List.take_zero] at f4
    obtain ⟨a4, i4, w4⟩ := SealD.typed f4
    obtain ⟨A3, c3, A4, c4, e4, s3, s4⟩ := i4
    simp only [List.cons.injEq, and_true] at e4
    obtain ⟨rfl, rfl, rfl, rfl, rfl, rfl, rfl, rfl, rfl⟩ := e4
    exact ⟨⟨a0, a1, a2, a3, a4⟩, ⟨_, _, _, _, _, _, _, _, _, _, rfl, s0, s1, s2, s3, s4⟩, w0, w1, w2, w3, w4⟩
set_option maxHeartbeats 2000000 in
set_option maxRecDepth 100000 in
theorem szBroker_any (d : BrokerD) (A0 : Option Addr) (c0 : Nat) (A1 : Option Addr) (c1 : Nat) (A2 : Option Addr) (c2 : Nat) (A3 : Option Addr) (c3 : Nat) (A4 : Option Addr) (c4 : Nat) (left : Int) (w : World) (hok : d.Ok) (s0 : SlF AnyB EntryD.cells 5 w A0 d.log.entries c0) (s1 : SlF AnyB ReceiptD.cells 3 w A1 d.receipts c1) (s2 : SlF AnyB HeadD.cells 5 w A2 d.heads c2) (s3 : SlF AnyB sone 1 w A3 d.sealed.leaves.peaks c3) (s4 : SlF AnyB sone 1 w A4 d.sealed.taken.peaks c4) (h0 : 0 ≤ left) (h1 : left ≤ 1048576) :
    Calls Tryz.prog 24 #[.agg #[.int .i64 d.width, .slice A0 d.log.entries.length c0, .slice A1 d.receipts.length c1, .slice A2 d.heads.length c2, .int .i64 d.sealed.leaves.size, .slice A3 d.sealed.leaves.peaks.length c3, .int .i64 d.sealed.taken.size, .slice A4 d.sealed.taken.peaks.length c4, .int .i64 d.sealed.head.number, .int .i64 d.sealed.head.size, .string d.sealed.head.root, .int .i64 d.sealed.head.taken, .string d.sealed.head.takenRoot], .int .i64 left] w fun e w' => e = .returned (.int .i64 (szL d.lens left)) ∧ Ext w w' := by
  obtain ⟨-, k_log, k_receipts, k_heads, k_sealed⟩ := hok
  have S0 := Lib.hid s0; clear s0
  have S1 := Lib.hid s1; clear s1
  have S2 := Lib.hid s2; clear s2
  have S3 := Lib.hid s3; clear s3
  have S4 := Lib.hid s4; clear s4
  have K_log := Lib.hid k_log; clear k_log
  have K_receipts := Lib.hid k_receipts; clear k_receipts
  have K_heads := Lib.hid k_heads; clear k_heads
  have K_sealed := Lib.hid k_sealed; clear k_sealed
  have K0 := Lib.hid (Blk.new w 63 #[.int .i64 d.width, .slice A0 d.log.entries.length c0, .slice A1 d.receipts.length c1, .slice A2 d.heads.length c2, .int .i64 d.sealed.leaves.size, .slice A3 d.sealed.leaves.peaks.length c3, .int .i64 d.sealed.taken.size, .slice A4 d.sealed.taken.peaks.length c4, .int .i64 d.sealed.head.number, .int .i64 d.sealed.head.size, .string d.sealed.head.root, .int .i64 d.sealed.head.taken, .string d.sealed.head.takenRoot])
  have He := Lib.hid (Ext.new (Below.refl w.heap.size w) (.cells #[.int .i64 d.width, .slice A0 d.log.entries.length c0, .slice A1 d.receipts.length c1, .slice A2 d.heads.length c2, .int .i64 d.sealed.leaves.size, .slice A3 d.sealed.leaves.peaks.length c3, .int .i64 d.sealed.taken.size, .slice A4 d.sealed.taken.peaks.length c4, .int .i64 d.sealed.head.number, .int .i64 d.sealed.head.size, .string d.sealed.head.root, .int .i64 d.sealed.head.taken, .string d.sealed.head.takenRoot] 63))
  obtain ⟨fin, hfin⟩ : ∃ fin, fin = szL d.lens left := ⟨_, rfl⟩
  have F : Hid (szL (d.log.lens ++ ((d.receipts.length :: d.receipts.flatMap ReceiptD.lens) ++ ((d.heads.length :: d.heads.flatMap HeadD.lens) ++ (d.sealed.lens ++ [])))) left = fin) := Lib.hid hfin.symm
  rw [← hfin]
  clear hfin
  go_enter Tryz.func24, Tryz.ntmps24
  go_wp2_with fail
  refine (szLog_any d.log A0 c0 left _ K_log.out (S0.out.ext He.out) h0 h1).mono ?_
  rintro e w1 ⟨rfl, hx⟩
  have K1 := K0.out.ext hx; have he := He.out.next hx; clear hx K0 He
  obtain ⟨r0, m0⟩ := K1.rules
  have hp := szL_pos d.log.lens left h0
  have hqq := szL_le d.log.lens left
  by_cases n0 : szL d.log.lens left < 0
  · have E := Lib.hid (show (-1 : Int) = fin by rw [← F.out, szL_append _ _ _ h0, if_pos n0])
    have ev : szL d.log.lens left = -1 := by omega
    clear hp hqq F
    go_wp2_with fail
    go_ret
    exact ⟨ret_int E.out, he⟩
  have F2 : Hid (szL ((d.receipts.length :: d.receipts.flatMap ReceiptD.lens) ++ ((d.heads.length :: d.heads.flatMap HeadD.lens) ++ (d.sealed.lens ++ []))) (szL d.log.lens left) = fin) := Lib.hid (by rw [← F.out, szL_append _ _ _ h0, if_neg n0])
  clear F
  have u0 : 0 ≤ szL d.log.lens left := by omega
  have v0 : szL d.log.lens left ≤ 1048576 := by omega
  clear hp hqq
  generalize szL d.log.lens left = q0 at *
  have F := F2
  clear F2
  go_wp2_with fail
  refine (szReceiptS_any A1 c1 d.receipts q0 _ (S1.out.ext he).reads K_receipts.out S1.out.len u0 v0).mono ?_
  rintro e w2 ⟨rfl, hx⟩
  replace K1 := K1.ext hx; replace he := he.next hx; clear hx r0 m0
  obtain ⟨r0, m0⟩ := K1.rules
  have hp := szL_pos (d.receipts.length :: d.receipts.flatMap ReceiptD.lens) q0 u0
  have hqq := szL_le (d.receipts.length :: d.receipts.flatMap ReceiptD.lens) q0
  by_cases n1 : szL (d.receipts.length :: d.receipts.flatMap ReceiptD.lens) q0 < 0
  · have E := Lib.hid (show (-1 : Int) = fin by rw [← F.out, szL_append _ _ _ u0, if_pos n1])
    have ev : szL (d.receipts.length :: d.receipts.flatMap ReceiptD.lens) q0 = -1 := by omega
    clear hp hqq F
    go_wp2_with fail
    go_ret
    exact ⟨ret_int E.out, he⟩
  have F2 : Hid (szL ((d.heads.length :: d.heads.flatMap HeadD.lens) ++ (d.sealed.lens ++ [])) (szL (d.receipts.length :: d.receipts.flatMap ReceiptD.lens) q0) = fin) := Lib.hid (by rw [← F.out, szL_append _ _ _ u0, if_neg n1])
  clear F
  have u1 : 0 ≤ szL (d.receipts.length :: d.receipts.flatMap ReceiptD.lens) q0 := by omega
  have v1 : szL (d.receipts.length :: d.receipts.flatMap ReceiptD.lens) q0 ≤ 1048576 := by omega
  clear hp hqq
  generalize szL (d.receipts.length :: d.receipts.flatMap ReceiptD.lens) q0 = q1 at *
  have F := F2
  clear F2
  go_wp2_with fail
  refine (szHeadS_any A2 c2 d.heads q1 _ (S2.out.ext he).reads K_heads.out S2.out.len u1 v1).mono ?_
  rintro e w3 ⟨rfl, hx⟩
  replace K1 := K1.ext hx; replace he := he.next hx; clear hx r0 m0
  obtain ⟨r0, m0⟩ := K1.rules
  have hp := szL_pos (d.heads.length :: d.heads.flatMap HeadD.lens) q1 u1
  have hqq := szL_le (d.heads.length :: d.heads.flatMap HeadD.lens) q1
  by_cases n2 : szL (d.heads.length :: d.heads.flatMap HeadD.lens) q1 < 0
  · have E := Lib.hid (show (-1 : Int) = fin by rw [← F.out, szL_append _ _ _ u1, if_pos n2])
    have ev : szL (d.heads.length :: d.heads.flatMap HeadD.lens) q1 = -1 := by omega
    clear hp hqq F
    go_wp2_with fail
    go_ret
    exact ⟨ret_int E.out, he⟩
  have F2 : Hid (szL (d.sealed.lens ++ []) (szL (d.heads.length :: d.heads.flatMap HeadD.lens) q1) = fin) := Lib.hid (by rw [← F.out, szL_append _ _ _ u1, if_neg n2])
  clear F
  have u2 : 0 ≤ szL (d.heads.length :: d.heads.flatMap HeadD.lens) q1 := by omega
  have v2 : szL (d.heads.length :: d.heads.flatMap HeadD.lens) q1 ≤ 1048576 := by omega
  clear hp hqq
  generalize szL (d.heads.length :: d.heads.flatMap HeadD.lens) q1 = q2 at *
  have F := F2
  clear F2
  go_wp2_with fail
  refine (szSeal_any d.sealed A3 c3 A4 c4 q2 _ K_sealed.out (S3.out.ext he) (S4.out.ext he) u2 v2).mono ?_
  rintro e w4 ⟨rfl, hx⟩
  replace K1 := K1.ext hx; replace he := he.next hx; clear hx r0 m0
  obtain ⟨r0, m0⟩ := K1.rules
  have hp := szL_pos d.sealed.lens q2 u2
  have hqq := szL_le d.sealed.lens q2
  by_cases n3 : szL d.sealed.lens q2 < 0
  · have E := Lib.hid (show (-1 : Int) = fin by rw [← F.out, szL_append _ _ _ u2, if_pos n3])
    have ev : szL d.sealed.lens q2 = -1 := by omega
    clear hp hqq F
    go_wp2_with fail
    go_ret
    exact ⟨ret_int E.out, he⟩
  have F2 : Hid (szL ([]) (szL d.sealed.lens q2) = fin) := Lib.hid (by rw [← F.out, szL_append _ _ _ u2, if_neg n3])
  clear F
  have u3 : 0 ≤ szL d.sealed.lens q2 := by omega
  have v3 : szL d.sealed.lens q2 ≤ 1048576 := by omega
  clear hp hqq
  generalize szL d.sealed.lens q2 = q3 at *
  have F := F2
  clear F2
  go_wp2_with fail
  go_ret
  exact ⟨ret_int (show q3 = fin from F.out), he⟩
set_option maxHeartbeats 4000000 in
set_option maxRecDepth 100000 in
theorem toBroker_any (d : BrokerD) (A0 : Option Addr) (c0 : Nat) (A1 : Option Addr) (c1 : Nat) (A2 : Option Addr) (c2 : Nat) (A3 : Option Addr) (c3 : Nat) (A4 : Option Addr) (c4 : Nat) (w : World) (s0 : SlF AnyB EntryD.cells 5 w A0 d.log.entries c0) (s1 : SlF AnyB ReceiptD.cells 3 w A1 d.receipts c1) (s2 : SlF AnyB HeadD.cells 5 w A2 d.heads c2) (s3 : SlF AnyB sone 1 w A3 d.sealed.leaves.peaks c3) (s4 : SlF AnyB sone 1 w A4 d.sealed.taken.peaks c4) (hf : ∀ n ∈ d.lens, n ≤ 1048576) :
    Calls Tryz.prog 26 #[.agg #[.int .i64 d.width, .slice A0 d.log.entries.length c0, .slice A1 d.receipts.length c1, .slice A2 d.heads.length c2, .int .i64 d.sealed.leaves.size, .slice A3 d.sealed.leaves.peaks.length c3, .int .i64 d.sealed.taken.size, .slice A4 d.sealed.taken.peaks.length c4, .int .i64 d.sealed.head.number, .int .i64 d.sealed.head.size, .string d.sealed.head.root, .int .i64 d.sealed.head.taken, .string d.sealed.head.takenRoot]] w fun e w' => ∃ cs, e = .returned (.agg cs.toArray) ∧ BrokerD.In (FromB w.heap.size) w' cs d ∧ Ext w w' := by
  have l_log : ∀ n ∈ d.log.lens, n ≤ 1048576 := fun n hn => hf n (by simp only [BrokerD.lens, List.mem_append]; simp [hn])
  have l_receipts : d.receipts.length ≤ 1048576 := hf _ (by simp [BrokerD.lens])
  have l_heads : d.heads.length ≤ 1048576 := hf _ (by simp [BrokerD.lens])
  have l_sealed : ∀ n ∈ d.sealed.lens, n ≤ 1048576 := fun n hn => hf n (by simp only [BrokerD.lens, List.mem_append]; simp [hn])
  have S0 := Lib.hid s0; clear s0
  have S1 := Lib.hid s1; clear s1
  have S2 := Lib.hid s2; clear s2
  have S3 := Lib.hid s3; clear s3
  have S4 := Lib.hid s4; clear s4
  clear hf
  go_enter Tryz.func26, Tryz.ntmps26
  go_wp2_with fail
  have HE : Ext w (((w.alloc (.cells #[.int .i64 d.width, .slice A0 d.log.entries.length c0, .slice A1 d.receipts.length c1, .slice A2 d.heads.length c2, .int .i64 d.sealed.leaves.size, .slice A3 d.sealed.leaves.peaks.length c3, .int .i64 d.sealed.taken.size, .slice A4 d.sealed.taken.peaks.length c4, .int .i64 d.sealed.head.number, .int .i64 d.sealed.head.size, .string d.sealed.head.root, .int .i64 d.sealed.head.taken, .string d.sealed.head.takenRoot] 63)).alloc (.cells #[.int .i64 0, .slice none 0 0, .slice none 0 0, .slice none 0 0, .int .i64 0, .slice none 0 0, .int .i64 0, .slice none 0 0, .int .i64 0, .int .i64 0, .string ⟨#[]⟩, .int .i64 0, .string ⟨#[]⟩] 37)).alloc (.cells #[.int .i64 d.width, .slice none 0 0, .slice none 0 0, .slice none 0 0, .int .i64 0, .slice none 0 0, .int .i64 0, .slice none 0 0, .int .i64 0, .int .i64 0, .string ⟨#[]⟩, .int .i64 0, .string ⟨#[]⟩] 37)) := Ext.new (Ext.new (Ext.new (Below.refl _ w) _) _) _
  refine (toLog_any d.log A0 c0 _ (S0.out.ext HE) l_log).mono ?_
  rintro e x1 ⟨cs, rfl, ⟨G0, D0, rfl, t0⟩, hx⟩
  have B0 := (((Blk.new _ _ _).alloc _).alloc _).ext hx
  have B1 := ((Blk.new _ _ _).alloc _).ext hx
  have B2 := (Blk.new _ _ _).ext hx
  have he := HE.next hx
  have hgs : w.heap.size + 1 + 1 + 1 ≤ w.heap.size + 1 + 1 + 1 := Nat.le_refl _
  simp only [World.size_alloc] at B1 B2
  have T0 : SlF (FromB (w.heap.size + 1 + 1 + 1)) EntryD.cells 5 x1 G0 d.log.entries D0 := t0.mono (fun b hb => by unfold FromB at *; simp only [World.size_alloc] at hb; omega)
  clear hx HE hgs
  obtain ⟨r0, f0⟩ := B0.rules
  obtain ⟨r2, f2⟩ := B2.rules
  go_upto_region 4 with fail
  have he_ := ext_setCells (W := w) (g := (w.heap.size + 1 + 1)) (by omega) [.slice G0 d.log.entries.length D0] 1 x1 he
  have C2 := B2.put 1 [.slice G0 d.log.entries.length D0] #[.int .i64 d.width, .slice G0 d.log.entries.length D0, .slice none 0 0, .slice none 0 0, .int .i64 0, .slice none 0 0, .int .i64 0, .slice none 0 0, .int .i64 0, .int .i64 0, .string ⟨#[]⟩, .int .i64 0, .string ⟨#[]⟩] (by simp) rfl
  have C1 := B1.farCells (g' := (w.heap.size + 1 + 1)) (by omega) [.slice G0 d.log.entries.length D0] 1
  have C0 := B0.farCells (g' := (w.heap.size + 1 + 1)) (by omega) [.slice G0 d.log.entries.length D0] 1
  replace T0 := T0.keep (Keep.setCells (g := (w.heap.size + 1 + 1)) (by unfold FromB; omega) [.slice G0 d.log.entries.length D0] 1 x1)
  clear r0 f0 r2 f2 B0 B1 B2 he
  change Code.wp _ _ _ _ (x1.setCells (w.heap.size + 1 + 1) 1 [.slice G0 d.log.entries.length D0])
  generalize x1.setCells (w.heap.size + 1 + 1) 1 [.slice G0 d.log.entries.length D0] = y1 at *
  have B0 := C0; have B1 := C1; have B2 := C2; have he := he_
  clear C0 C1 C2 he_
  obtain ⟨r0, f0⟩ := B0.rules
  obtain ⟨r2, f2⟩ := B2.rules
  go_wp2_with fail
  refine (toReceiptS_any A1 c1 d.receipts _ (S1.out.ext he).reads l_receipts).mono ?_
  rintro e x2 ⟨g1, rfl, hg, bg, hx⟩
  have hsz : w.heap.size + 1 + 1 + 1 ≤ y1.heap.size := B2.lt
  replace B0 := B0.ext hx; replace B1 := B1.ext hx; replace B2 := B2.ext hx; replace he := he.next hx
  replace T0 := (T0.ext hx)
  have T1 : SlF (FromB (w.heap.size + 1 + 1 + 1)) ReceiptD.cells 3 x2 (some ⟨g1, 0, none⟩) d.receipts d.receipts.length := SlF.new ReceiptD.cells_length bg l_receipts (show _ ≤ _ by omega)
  clear hx hsz
  clear r0 f0 r2 f2
  obtain ⟨r0, f0⟩ := B0.rules
  obtain ⟨r2, f2⟩ := B2.rules
  go_upto_region 5 with fail
  have he_ := ext_setCells (W := w) (g := (w.heap.size + 1 + 1)) (by omega) [.slice (some ⟨g1, 0, none⟩) d.receipts.length d.receipts.length] 2 x2 he
  have C2 := B2.put 2 [.slice (some ⟨g1, 0, none⟩) d.receipts.length d.receipts.length] #[.int .i64 d.width, .slice G0 d.log.entries.length D0, .slice (some ⟨g1, 0, none⟩) d.receipts.length d.receipts.length, .slice none 0 0, .int .i64 0, .slice none 0 0, .int .i64 0, .slice none 0 0, .int .i64 0, .int .i64 0, .string ⟨#[]⟩, .int .i64 0, .string ⟨#[]⟩] (by simp) rfl
  have C1 := B1.farCells (g' := (w.heap.size + 1 + 1)) (by omega) [.slice (some ⟨g1, 0, none⟩) d.receipts.length d.receipts.length] 2
  have C0 := B0.farCells (g' := (w.heap.size + 1 + 1)) (by omega) [.slice (some ⟨g1, 0, none⟩) d.receipts.length d.receipts.length] 2
  replace T0 := T0.keep (Keep.setCells (g := (w.heap.size + 1 + 1)) (by unfold FromB; omega) [.slice (some ⟨g1, 0, none⟩) d.receipts.length d.receipts.length] 2 x2)
  replace T1 := T1.keep (Keep.setCells (g := (w.heap.size + 1 + 1)) (by unfold FromB; omega) [.slice (some ⟨g1, 0, none⟩) d.receipts.length d.receipts.length] 2 x2)
  clear r0 f0 r2 f2 B0 B1 B2 he
  change Code.wp _ _ _ _ (x2.setCells (w.heap.size + 1 + 1) 2 [.slice (some ⟨g1, 0, none⟩) d.receipts.length d.receipts.length])
  generalize x2.setCells (w.heap.size + 1 + 1) 2 [.slice (some ⟨g1, 0, none⟩) d.receipts.length d.receipts.length] = y2 at *
  have B0 := C0; have B1 := C1; have B2 := C2; have he := he_
  clear C0 C1 C2 he_
  obtain ⟨r0, f0⟩ := B0.rules
  obtain ⟨r2, f2⟩ := B2.rules
  go_wp2_with fail
  refine (toHeadS_any A2 c2 d.heads _ (S2.out.ext he).reads l_heads).mono ?_
  rintro e x3 ⟨g2, rfl, hg, bg, hx⟩
  have hsz : w.heap.size + 1 + 1 + 1 ≤ y2.heap.size := B2.lt
  replace B0 := B0.ext hx; replace B1 := B1.ext hx; replace B2 := B2.ext hx; replace he := he.next hx
  replace T0 := (T0.ext hx)
  replace T1 := (T1.ext hx)
  have T2 : SlF (FromB (w.heap.size + 1 + 1 + 1)) HeadD.cells 5 x3 (some ⟨g2, 0, none⟩) d.heads d.heads.length := SlF.new HeadD.cells_length bg l_heads (show _ ≤ _ by omega)
  clear hx hsz
  clear r0 f0 r2 f2
  obtain ⟨r0, f0⟩ := B0.rules
  obtain ⟨r2, f2⟩ := B2.rules
  go_upto_region 6 with fail
  have he_ := ext_setCells (W := w) (g := (w.heap.size + 1 + 1)) (by omega) [.slice (some ⟨g2, 0, none⟩) d.heads.length d.heads.length] 3 x3 he
  have C2 := B2.put 3 [.slice (some ⟨g2, 0, none⟩) d.heads.length d.heads.length] #[.int .i64 d.width, .slice G0 d.log.entries.length D0, .slice (some ⟨g1, 0, none⟩) d.receipts.length d.receipts.length, .slice (some ⟨g2, 0, none⟩) d.heads.length d.heads.length, .int .i64 0, .slice none 0 0, .int .i64 0, .slice none 0 0, .int .i64 0, .int .i64 0, .string ⟨#[]⟩, .int .i64 0, .string ⟨#[]⟩] (by simp) rfl
  have C1 := B1.farCells (g' := (w.heap.size + 1 + 1)) (by omega) [.slice (some ⟨g2, 0, none⟩) d.heads.length d.heads.length] 3
  have C0 := B0.farCells (g' := (w.heap.size + 1 + 1)) (by omega) [.slice (some ⟨g2, 0, none⟩) d.heads.length d.heads.length] 3
  replace T0 := T0.keep (Keep.setCells (g := (w.heap.size + 1 + 1)) (by unfold FromB; omega) [.slice (some ⟨g2, 0, none⟩) d.heads.length d.heads.length] 3 x3)
  replace T1 := T1.keep (Keep.setCells (g := (w.heap.size + 1 + 1)) (by unfold FromB; omega) [.slice (some ⟨g2, 0, none⟩) d.heads.length d.heads.length] 3 x3)
  replace T2 := T2.keep (Keep.setCells (g := (w.heap.size + 1 + 1)) (by unfold FromB; omega) [.slice (some ⟨g2, 0, none⟩) d.heads.length d.heads.length] 3 x3)
  clear r0 f0 r2 f2 B0 B1 B2 he
  change Code.wp _ _ _ _ (x3.setCells (w.heap.size + 1 + 1) 3 [.slice (some ⟨g2, 0, none⟩) d.heads.length d.heads.length])
  generalize x3.setCells (w.heap.size + 1 + 1) 3 [.slice (some ⟨g2, 0, none⟩) d.heads.length d.heads.length] = y3 at *
  have B0 := C0; have B1 := C1; have B2 := C2; have he := he_
  clear C0 C1 C2 he_
  obtain ⟨r0, f0⟩ := B0.rules
  obtain ⟨r2, f2⟩ := B2.rules
  go_wp2_with fail
  refine (toSeal_any d.sealed A3 c3 A4 c4 _ (S3.out.ext he) (S4.out.ext he) l_sealed).mono ?_
  rintro e x4 ⟨cs, rfl, ⟨G3, D3, G4, D4, rfl, t3, t4⟩, hx⟩
  have hsz : w.heap.size + 1 + 1 + 1 ≤ y3.heap.size := B2.lt
  replace B0 := B0.ext hx; replace B1 := B1.ext hx; replace B2 := B2.ext hx; replace he := he.next hx
  replace T0 := (T0.ext hx)
  replace T1 := (T1.ext hx)
  replace T2 := (T2.ext hx)
  have T3 : SlF (FromB (w.heap.size + 1 + 1 + 1)) sone 1 x4 G3 d.sealed.leaves.peaks D3 := t3.mono (fun b hb => by unfold FromB at *; omega)
  have T4 : SlF (FromB (w.heap.size + 1 + 1 + 1)) sone 1 x4 G4 d.sealed.taken.peaks D4 := t4.mono (fun b hb => by unfold FromB at *; omega)
  clear hx hsz
  clear r0 f0 r2 f2
  obtain ⟨r0, f0⟩ := B0.rules
  obtain ⟨r2, f2⟩ := B2.rules
  go_upto_region 7 with fail
  have he_ := ext_setCells (W := w) (g := (w.heap.size + 1 + 1)) (by omega) [.int .i64 d.sealed.leaves.size, .slice G3 d.sealed.leaves.peaks.length D3, .int .i64 d.sealed.taken.size, .slice G4 d.sealed.taken.peaks.length D4, .int .i64 d.sealed.head.number, .int .i64 d.sealed.head.size, .string d.sealed.head.root, .int .i64 d.sealed.head.taken, .string d.sealed.head.takenRoot] 4 x4 he
  have C2 := B2.put 4 [.int .i64 d.sealed.leaves.size, .slice G3 d.sealed.leaves.peaks.length D3, .int .i64 d.sealed.taken.size, .slice G4 d.sealed.taken.peaks.length D4, .int .i64 d.sealed.head.number, .int .i64 d.sealed.head.size, .string d.sealed.head.root, .int .i64 d.sealed.head.taken, .string d.sealed.head.takenRoot] #[.int .i64 d.width, .slice G0 d.log.entries.length D0, .slice (some ⟨g1, 0, none⟩) d.receipts.length d.receipts.length, .slice (some ⟨g2, 0, none⟩) d.heads.length d.heads.length, .int .i64 d.sealed.leaves.size, .slice G3 d.sealed.leaves.peaks.length D3, .int .i64 d.sealed.taken.size, .slice G4 d.sealed.taken.peaks.length D4, .int .i64 d.sealed.head.number, .int .i64 d.sealed.head.size, .string d.sealed.head.root, .int .i64 d.sealed.head.taken, .string d.sealed.head.takenRoot] (by simp) rfl
  have C1 := B1.farCells (g' := (w.heap.size + 1 + 1)) (by omega) [.int .i64 d.sealed.leaves.size, .slice G3 d.sealed.leaves.peaks.length D3, .int .i64 d.sealed.taken.size, .slice G4 d.sealed.taken.peaks.length D4, .int .i64 d.sealed.head.number, .int .i64 d.sealed.head.size, .string d.sealed.head.root, .int .i64 d.sealed.head.taken, .string d.sealed.head.takenRoot] 4
  have C0 := B0.farCells (g' := (w.heap.size + 1 + 1)) (by omega) [.int .i64 d.sealed.leaves.size, .slice G3 d.sealed.leaves.peaks.length D3, .int .i64 d.sealed.taken.size, .slice G4 d.sealed.taken.peaks.length D4, .int .i64 d.sealed.head.number, .int .i64 d.sealed.head.size, .string d.sealed.head.root, .int .i64 d.sealed.head.taken, .string d.sealed.head.takenRoot] 4
  replace T0 := T0.keep (Keep.setCells (g := (w.heap.size + 1 + 1)) (by unfold FromB; omega) [.int .i64 d.sealed.leaves.size, .slice G3 d.sealed.leaves.peaks.length D3, .int .i64 d.sealed.taken.size, .slice G4 d.sealed.taken.peaks.length D4, .int .i64 d.sealed.head.number, .int .i64 d.sealed.head.size, .string d.sealed.head.root, .int .i64 d.sealed.head.taken, .string d.sealed.head.takenRoot] 4 x4)
  replace T1 := T1.keep (Keep.setCells (g := (w.heap.size + 1 + 1)) (by unfold FromB; omega) [.int .i64 d.sealed.leaves.size, .slice G3 d.sealed.leaves.peaks.length D3, .int .i64 d.sealed.taken.size, .slice G4 d.sealed.taken.peaks.length D4, .int .i64 d.sealed.head.number, .int .i64 d.sealed.head.size, .string d.sealed.head.root, .int .i64 d.sealed.head.taken, .string d.sealed.head.takenRoot] 4 x4)
  replace T2 := T2.keep (Keep.setCells (g := (w.heap.size + 1 + 1)) (by unfold FromB; omega) [.int .i64 d.sealed.leaves.size, .slice G3 d.sealed.leaves.peaks.length D3, .int .i64 d.sealed.taken.size, .slice G4 d.sealed.taken.peaks.length D4, .int .i64 d.sealed.head.number, .int .i64 d.sealed.head.size, .string d.sealed.head.root, .int .i64 d.sealed.head.taken, .string d.sealed.head.takenRoot] 4 x4)
  replace T3 := T3.keep (Keep.setCells (g := (w.heap.size + 1 + 1)) (by unfold FromB; omega) [.int .i64 d.sealed.leaves.size, .slice G3 d.sealed.leaves.peaks.length D3, .int .i64 d.sealed.taken.size, .slice G4 d.sealed.taken.peaks.length D4, .int .i64 d.sealed.head.number, .int .i64 d.sealed.head.size, .string d.sealed.head.root, .int .i64 d.sealed.head.taken, .string d.sealed.head.takenRoot] 4 x4)
  replace T4 := T4.keep (Keep.setCells (g := (w.heap.size + 1 + 1)) (by unfold FromB; omega) [.int .i64 d.sealed.leaves.size, .slice G3 d.sealed.leaves.peaks.length D3, .int .i64 d.sealed.taken.size, .slice G4 d.sealed.taken.peaks.length D4, .int .i64 d.sealed.head.number, .int .i64 d.sealed.head.size, .string d.sealed.head.root, .int .i64 d.sealed.head.taken, .string d.sealed.head.takenRoot] 4 x4)
  clear r0 f0 r2 f2 B0 B1 B2 he
  change Code.wp _ _ _ _ (x4.setCells (w.heap.size + 1 + 1) 4 [.int .i64 d.sealed.leaves.size, .slice G3 d.sealed.leaves.peaks.length D3, .int .i64 d.sealed.taken.size, .slice G4 d.sealed.taken.peaks.length D4, .int .i64 d.sealed.head.number, .int .i64 d.sealed.head.size, .string d.sealed.head.root, .int .i64 d.sealed.head.taken, .string d.sealed.head.takenRoot])
  generalize x4.setCells (w.heap.size + 1 + 1) 4 [.int .i64 d.sealed.leaves.size, .slice G3 d.sealed.leaves.peaks.length D3, .int .i64 d.sealed.taken.size, .slice G4 d.sealed.taken.peaks.length D4, .int .i64 d.sealed.head.number, .int .i64 d.sealed.head.size, .string d.sealed.head.root, .int .i64 d.sealed.head.taken, .string d.sealed.head.takenRoot] = y4 at *
  have B0 := C0; have B1 := C1; have B2 := C2; have he := he_
  clear C0 C1 C2 he_
  obtain ⟨r0, f0⟩ := B0.rules
  obtain ⟨r2, f2⟩ := B2.rules
  have ld := Lib.hid (B2.range)
  have st := Lib.hid (B1.there 0 13 (by decide))
  have O1 : Hid ((#[.int .i64 d.width, .slice G0 d.log.entries.length D0, .slice (some ⟨g1, 0, none⟩) d.receipts.length d.receipts.length, .slice (some ⟨g2, 0, none⟩) d.heads.length d.heads.length, .int .i64 d.sealed.leaves.size, .slice G3 d.sealed.leaves.peaks.length D3, .int .i64 d.sealed.taken.size, .slice G4 d.sealed.taken.peaks.length D4, .int .i64 d.sealed.head.number, .int .i64 d.sealed.head.size, .string d.sealed.head.root, .int .i64 d.sealed.head.taken, .string d.sealed.head.takenRoot] : Array Value).all (·.oneCell') = true) := Lib.hid (all_oneCell_toArray (by simp [Value.oneCell']))
  clear r0 f0 r2 f2
  have he_ := ext_setCells (W := w) (g := w.heap.size + 1) (by omega) [.int .i64 d.width, .slice G0 d.log.entries.length D0, .slice (some ⟨g1, 0, none⟩) d.receipts.length d.receipts.length, .slice (some ⟨g2, 0, none⟩) d.heads.length d.heads.length, .int .i64 d.sealed.leaves.size, .slice G3 d.sealed.leaves.peaks.length D3, .int .i64 d.sealed.taken.size, .slice G4 d.sealed.taken.peaks.length D4, .int .i64 d.sealed.head.number, .int .i64 d.sealed.head.size, .string d.sealed.head.root, .int .i64 d.sealed.head.taken, .string d.sealed.head.takenRoot] 0 y4 he
  have E1 := B1.put 0 [.int .i64 d.width, .slice G0 d.log.entries.length D0, .slice (some ⟨g1, 0, none⟩) d.receipts.length d.receipts.length, .slice (some ⟨g2, 0, none⟩) d.heads.length d.heads.length, .int .i64 d.sealed.leaves.size, .slice G3 d.sealed.leaves.peaks.length D3, .int .i64 d.sealed.taken.size, .slice G4 d.sealed.taken.peaks.length D4, .int .i64 d.sealed.head.number, .int .i64 d.sealed.head.size, .string d.sealed.head.root, .int .i64 d.sealed.head.taken, .string d.sealed.head.takenRoot] #[.int .i64 d.width, .slice G0 d.log.entries.length D0, .slice (some ⟨g1, 0, none⟩) d.receipts.length d.receipts.length, .slice (some ⟨g2, 0, none⟩) d.heads.length d.heads.length, .int .i64 d.sealed.leaves.size, .slice G3 d.sealed.leaves.peaks.length D3, .int .i64 d.sealed.taken.size, .slice G4 d.sealed.taken.peaks.length D4, .int .i64 d.sealed.head.number, .int .i64 d.sealed.head.size, .string d.sealed.head.root, .int .i64 d.sealed.head.taken, .string d.sealed.head.takenRoot] (by simp) rfl
  replace T0 := T0.keep (Keep.setCells (g := w.heap.size + 1) (by unfold FromB; omega) [.int .i64 d.width, .slice G0 d.log.entries.length D0, .slice (some ⟨g1, 0, none⟩) d.receipts.length d.receipts.length, .slice (some ⟨g2, 0, none⟩) d.heads.length d.heads.length, .int .i64 d.sealed.leaves.size, .slice G3 d.sealed.leaves.peaks.length D3, .int .i64 d.sealed.taken.size, .slice G4 d.sealed.taken.peaks.length D4, .int .i64 d.sealed.head.number, .int .i64 d.sealed.head.size, .string d.sealed.head.root, .int .i64 d.sealed.head.taken, .string d.sealed.head.takenRoot] 0 y4)
  replace T1 := T1.keep (Keep.setCells (g := w.heap.size + 1) (by unfold FromB; omega) [.int .i64 d.width, .slice G0 d.log.entries.length D0, .slice (some ⟨g1, 0, none⟩) d.receipts.length d.receipts.length, .slice (some ⟨g2, 0, none⟩) d.heads.length d.heads.length, .int .i64 d.sealed.leaves.size, .slice G3 d.sealed.leaves.peaks.length D3, .int .i64 d.sealed.taken.size, .slice G4 d.sealed.taken.peaks.length D4, .int .i64 d.sealed.head.number, .int .i64 d.sealed.head.size, .string d.sealed.head.root, .int .i64 d.sealed.head.taken, .string d.sealed.head.takenRoot] 0 y4)
  replace T2 := T2.keep (Keep.setCells (g := w.heap.size + 1) (by unfold FromB; omega) [.int .i64 d.width, .slice G0 d.log.entries.length D0, .slice (some ⟨g1, 0, none⟩) d.receipts.length d.receipts.length, .slice (some ⟨g2, 0, none⟩) d.heads.length d.heads.length, .int .i64 d.sealed.leaves.size, .slice G3 d.sealed.leaves.peaks.length D3, .int .i64 d.sealed.taken.size, .slice G4 d.sealed.taken.peaks.length D4, .int .i64 d.sealed.head.number, .int .i64 d.sealed.head.size, .string d.sealed.head.root, .int .i64 d.sealed.head.taken, .string d.sealed.head.takenRoot] 0 y4)
  replace T3 := T3.keep (Keep.setCells (g := w.heap.size + 1) (by unfold FromB; omega) [.int .i64 d.width, .slice G0 d.log.entries.length D0, .slice (some ⟨g1, 0, none⟩) d.receipts.length d.receipts.length, .slice (some ⟨g2, 0, none⟩) d.heads.length d.heads.length, .int .i64 d.sealed.leaves.size, .slice G3 d.sealed.leaves.peaks.length D3, .int .i64 d.sealed.taken.size, .slice G4 d.sealed.taken.peaks.length D4, .int .i64 d.sealed.head.number, .int .i64 d.sealed.head.size, .string d.sealed.head.root, .int .i64 d.sealed.head.taken, .string d.sealed.head.takenRoot] 0 y4)
  replace T4 := T4.keep (Keep.setCells (g := w.heap.size + 1) (by unfold FromB; omega) [.int .i64 d.width, .slice G0 d.log.entries.length D0, .slice (some ⟨g1, 0, none⟩) d.receipts.length d.receipts.length, .slice (some ⟨g2, 0, none⟩) d.heads.length d.heads.length, .int .i64 d.sealed.leaves.size, .slice G3 d.sealed.leaves.peaks.length D3, .int .i64 d.sealed.taken.size, .slice G4 d.sealed.taken.peaks.length D4, .int .i64 d.sealed.head.number, .int .i64 d.sealed.head.size, .string d.sealed.head.root, .int .i64 d.sealed.head.taken, .string d.sealed.head.takenRoot] 0 y4)
  clear B0 B1 B2 he
  go_wp2_with (first | (refine wpList_load_mid rfl 37 _ rfl (w.heap.size + 1 + 1) 0 rfl [.int .i64 d.width, .slice G0 d.log.entries.length D0, .slice (some ⟨g1, 0, none⟩) d.receipts.length d.receipts.length, .slice (some ⟨g2, 0, none⟩) d.heads.length d.heads.length, .int .i64 d.sealed.leaves.size, .slice G3 d.sealed.leaves.peaks.length D3, .int .i64 d.sealed.taken.size, .slice G4 d.sealed.taken.peaks.length D4, .int .i64 d.sealed.head.number, .int .i64 d.sealed.head.size, .string d.sealed.head.root, .int .i64 d.sealed.head.taken, .string d.sealed.head.takenRoot] _ ld.out Tryz.underlying37 rfl (by kernel_rfl) ?_) | (refine wpList_store_mid rfl 37 _ _ rfl (w.heap.size + 1) 0 #[.int .i64 d.width, .slice G0 d.log.entries.length D0, .slice (some ⟨g1, 0, none⟩) d.receipts.length d.receipts.length, .slice (some ⟨g2, 0, none⟩) d.heads.length d.heads.length, .int .i64 d.sealed.leaves.size, .slice G3 d.sealed.leaves.peaks.length D3, .int .i64 d.sealed.taken.size, .slice G4 d.sealed.taken.peaks.length D4, .int .i64 d.sealed.head.number, .int .i64 d.sealed.head.size, .string d.sealed.head.root, .int .i64 d.sealed.head.taken, .string d.sealed.head.takenRoot] rfl rfl st.out (by kernel_rfl) O1.out ?_; change wpList _ _ _ _ _ (y4.setCells (w.heap.size + 1) 0 [.int .i64 d.width, .slice G0 d.log.entries.length D0, .slice (some ⟨g1, 0, none⟩) d.receipts.length d.receipts.length, .slice (some ⟨g2, 0, none⟩) d.heads.length d.heads.length, .int .i64 d.sealed.leaves.size, .slice G3 d.sealed.leaves.peaks.length D3, .int .i64 d.sealed.taken.size, .slice G4 d.sealed.taken.peaks.length D4, .int .i64 d.sealed.head.number, .int .i64 d.sealed.head.size, .string d.sealed.head.root, .int .i64 d.sealed.head.taken, .string d.sealed.head.takenRoot]); clear ld st O1; generalize y4.setCells (w.heap.size + 1) 0 [.int .i64 d.width, .slice G0 d.log.entries.length D0, .slice (some ⟨g1, 0, none⟩) d.receipts.length d.receipts.length, .slice (some ⟨g2, 0, none⟩) d.heads.length d.heads.length, .int .i64 d.sealed.leaves.size, .slice G3 d.sealed.leaves.peaks.length D3, .int .i64 d.sealed.taken.size, .slice G4 d.sealed.taken.peaks.length D4, .int .i64 d.sealed.head.number, .int .i64 d.sealed.head.size, .string d.sealed.head.root, .int .i64 d.sealed.head.taken, .string d.sealed.head.takenRoot] = z at *))
  exact ret_row rfl rfl E1 Tryz.underlying37 rfl (by kernel_rfl) rfl ⟨[.int .i64 d.width, .slice G0 d.log.entries.length D0, .slice (some ⟨g1, 0, none⟩) d.receipts.length d.receipts.length, .slice (some ⟨g2, 0, none⟩) d.heads.length d.heads.length, .int .i64 d.sealed.leaves.size, .slice G3 d.sealed.leaves.peaks.length D3, .int .i64 d.sealed.taken.size, .slice G4 d.sealed.taken.peaks.length D4, .int .i64 d.sealed.head.number, .int .i64 d.sealed.head.size, .string d.sealed.head.root, .int .i64 d.sealed.head.taken, .string d.sealed.head.takenRoot], rfl, ⟨_, _, _, _, _, _, _, _, _, _, rfl, T0.mono (fun b hb => by unfold FromB at *; omega), T1.mono (fun b hb => by unfold FromB at *; omega), T2.mono (fun b hb => by unfold FromB at *; omega), T3.mono (fun b hb => by unfold FromB at *; omega), T4.mono (fun b hb => by unfold FromB at *; omega)⟩, he_⟩
set_option maxHeartbeats 2000000 in
set_option maxRecDepth 100000 in
theorem eqBroker_same (d : BrokerD) (A0 : Option Addr) (c0 : Nat) (A1 : Option Addr) (c1 : Nat) (A2 : Option Addr) (c2 : Nat) (A3 : Option Addr) (c3 : Nat) (A4 : Option Addr) (c4 : Nat) (B0 : Option Addr) (e0 : Nat) (B1 : Option Addr) (e1 : Nat) (B2 : Option Addr) (e2 : Nat) (B3 : Option Addr) (e3 : Nat) (B4 : Option Addr) (e4 : Nat) (w : World) (s0 : SlF AnyB EntryD.cells 5 w A0 d.log.entries c0) (s1 : SlF AnyB ReceiptD.cells 3 w A1 d.receipts c1) (s2 : SlF AnyB HeadD.cells 5 w A2 d.heads c2) (s3 : SlF AnyB sone 1 w A3 d.sealed.leaves.peaks c3) (s4 : SlF AnyB sone 1 w A4 d.sealed.taken.peaks c4) (t0 : SlF AnyB EntryD.cells 5 w B0 d.log.entries e0) (t1 : SlF AnyB ReceiptD.cells 3 w B1 d.receipts e1) (t2 : SlF AnyB HeadD.cells 5 w B2 d.heads e2) (t3 : SlF AnyB sone 1 w B3 d.sealed.leaves.peaks e3) (t4 : SlF AnyB sone 1 w B4 d.sealed.taken.peaks e4) (hf : ∀ n ∈ d.lens, n ≤ 1048576) :
    Calls Tryz.prog 30 #[.agg #[.int .i64 d.width, .slice A0 d.log.entries.length c0, .slice A1 d.receipts.length c1, .slice A2 d.heads.length c2, .int .i64 d.sealed.leaves.size, .slice A3 d.sealed.leaves.peaks.length c3, .int .i64 d.sealed.taken.size, .slice A4 d.sealed.taken.peaks.length c4, .int .i64 d.sealed.head.number, .int .i64 d.sealed.head.size, .string d.sealed.head.root, .int .i64 d.sealed.head.taken, .string d.sealed.head.takenRoot], .agg #[.int .i64 d.width, .slice B0 d.log.entries.length e0, .slice B1 d.receipts.length e1, .slice B2 d.heads.length e2, .int .i64 d.sealed.leaves.size, .slice B3 d.sealed.leaves.peaks.length e3, .int .i64 d.sealed.taken.size, .slice B4 d.sealed.taken.peaks.length e4, .int .i64 d.sealed.head.number, .int .i64 d.sealed.head.size, .string d.sealed.head.root, .int .i64 d.sealed.head.taken, .string d.sealed.head.takenRoot]] w fun e w' => e = .returned (.bool true) ∧ Ext w w' := by
  have l_log : ∀ n ∈ d.log.lens, n ≤ 1048576 := fun n hn => hf n (by simp only [BrokerD.lens, List.mem_append]; simp [hn])
  have l_receipts : d.receipts.length ≤ 1048576 := hf _ (by simp [BrokerD.lens])
  have l_heads : d.heads.length ≤ 1048576 := hf _ (by simp [BrokerD.lens])
  have l_sealed : ∀ n ∈ d.sealed.lens, n ≤ 1048576 := fun n hn => hf n (by simp only [BrokerD.lens, List.mem_append]; simp [hn])
  have S0 := Lib.hid s0; have T0 := Lib.hid t0; clear s0 t0
  have S1 := Lib.hid s1; have T1 := Lib.hid t1; clear s1 t1
  have S2 := Lib.hid s2; have T2 := Lib.hid t2; clear s2 t2
  have S3 := Lib.hid s3; have T3 := Lib.hid t3; clear s3 t3
  have S4 := Lib.hid s4; have T4 := Lib.hid t4; clear s4 t4
  clear hf
  obtain ⟨K0, K1, he⟩ := two_new w #[.int .i64 d.width, .slice A0 d.log.entries.length c0, .slice A1 d.receipts.length c1, .slice A2 d.heads.length c2, .int .i64 d.sealed.leaves.size, .slice A3 d.sealed.leaves.peaks.length c3, .int .i64 d.sealed.taken.size, .slice A4 d.sealed.taken.peaks.length c4, .int .i64 d.sealed.head.number, .int .i64 d.sealed.head.size, .string d.sealed.head.root, .int .i64 d.sealed.head.taken, .string d.sealed.head.takenRoot] #[.int .i64 d.width, .slice B0 d.log.entries.length e0, .slice B1 d.receipts.length e1, .slice B2 d.heads.length e2, .int .i64 d.sealed.leaves.size, .slice B3 d.sealed.leaves.peaks.length e3, .int .i64 d.sealed.taken.size, .slice B4 d.sealed.taken.peaks.length e4, .int .i64 d.sealed.head.number, .int .i64 d.sealed.head.size, .string d.sealed.head.root, .int .i64 d.sealed.head.taken, .string d.sealed.head.takenRoot] 37 37
  go_enter Tryz.func30, Tryz.ntmps30
  obtain ⟨r0, f0⟩ := K0.rules
  obtain ⟨r1, f1⟩ := K1.rules
  go_wp2_with fail
  obtain ⟨g, hg⟩ : ∃ g, g = w.heap.size := ⟨_, rfl⟩
  rw [← hg] at K0 K1
  rw [← hg]
  clear hg r0 f0 r1 f1
  refine (eqLog_same d.log A0 c0 B0 e0 _ (S0.out.ext he) (T0.out.ext he) l_log).mono ?_
  rintro e x1 ⟨rfl, hx⟩
  replace K0 := K0.ext hx; replace K1 := K1.ext hx; replace he := he.next hx; clear hx
  obtain ⟨r0, f0⟩ := K0.rules
  obtain ⟨r1, f1⟩ := K1.rules
  go_wp2_with fail
  clear r0 f0 r1 f1
  refine (eqReceiptS_same A1 B1 c1 e1 d.receipts _ (S1.out.ext he).reads (T1.out.ext he).reads l_receipts).mono ?_
  rintro e x2 ⟨rfl, hx⟩
  replace K0 := K0.ext hx; replace K1 := K1.ext hx; replace he := he.next hx; clear hx
  obtain ⟨r0, f0⟩ := K0.rules
  obtain ⟨r1, f1⟩ := K1.rules
  go_wp2_with fail
  clear r0 f0 r1 f1
  refine (eqHeadS_same A2 B2 c2 e2 d.heads _ (S2.out.ext he).reads (T2.out.ext he).reads l_heads).mono ?_
  rintro e x3 ⟨rfl, hx⟩
  replace K0 := K0.ext hx; replace K1 := K1.ext hx; replace he := he.next hx; clear hx
  obtain ⟨r0, f0⟩ := K0.rules
  obtain ⟨r1, f1⟩ := K1.rules
  go_wp2_with fail
  clear r0 f0 r1 f1
  refine (eqSeal_same d.sealed A3 c3 A4 c4 B3 e3 B4 e4 _ (S3.out.ext he) (S4.out.ext he) (T3.out.ext he) (T4.out.ext he) l_sealed).mono ?_
  rintro e x4 ⟨rfl, hx⟩
  replace K0 := K0.ext hx; replace K1 := K1.ext hx; replace he := he.next hx; clear hx
  obtain ⟨r0, f0⟩ := K0.rules
  obtain ⟨r1, f1⟩ := K1.rules
  go_wp2_with fail
  clear r0 f0 r1 f1
  go_ret
  exact ⟨rfl, he⟩
end Go.Proofs.YtkcjhfidgnbdiaaGreat
