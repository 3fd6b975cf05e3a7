/-
  NBroker: No condition.
-/
import Derived.Test.YtlgdghpnfclgpaaGreatNest
import Derived.Test.YtlgdghpnfclgpaaGreatConvHead
import Derived.Test.YtlgdghpnfclgpaaGreatNSeal
import Derived.Test.YtlgdghpnfclgpaaGreatMerkle
import Derived.StillTailTactics
namespace Go.Proofs.YtlgdghpnfclgpaaGreat
set_option maxHeartbeats 2000000
set_option maxRecDepth 100000
set_option linter.unusedSimpArgs false
open Go.RowKit
set_option linter.unusedVariables false
structure BrokerD where
 width : Int
 log : LogD
 receipts : List ReceiptD
 heads : List HeadD
 sealed : SealD
def BrokerD.In : Rep BrokerD := fun p w cs d => ∃ (A0 : Option Addr) (c0 : Nat) (A1 : Option Addr) (c1 : Nat) (A2 : Option Addr) (c2 : Nat) (A3 : Option Addr) (c3 : Nat) (A4 : Option Addr) (c4 : Nat), cs = [.int .i64 d.width, .slice A0 d.log.entries.length c0, .slice A1 d.receipts.length c1, .slice A2 d.heads.length c2, .int .i64 d.sealed.leaves.size, .slice A3 d.sealed.leaves.peaks.length c3, .int .i64 d.sealed.taken.size, .slice A4 d.sealed.taken.peaks.length c4, .int .i64 d.sealed.head.number, .int .i64 d.sealed.head.size, .string d.sealed.head.root, .int .i64 d.sealed.head.taken, .string d.sealed.head.takenRoot] ∧ SlF p EntryD.cells 5 w A0 d.log.entries c0 ∧ SlF p ReceiptD.cells 3 w A1 d.receipts c1 ∧ SlF p HeadD.cells 5 w A2 d.heads c2 ∧ SlF p sone 1 w A3 d.sealed.leaves.peaks c3 ∧ SlF p sone 1 w A4 d.sealed.taken.peaks c4
def BrokerD.Ok (d : BrokerD) : Prop := (Lit.int .i64 d.width).wf = true ∧ d.log.Ok ∧ (∀ x ∈ d.receipts, x.Ok) ∧ (∀ x ∈ d.heads, x.Ok) ∧ d.sealed.Ok
def BrokerD.lens (d : BrokerD) : List Nat := d.log.lens ++ ((d.receipts.length :: d.receipts.flatMap ReceiptD.lens) ++ ((d.heads.length :: d.heads.flatMap HeadD.lens) ++ (d.sealed.lens ++ [])))
theorem BrokerD.typed {w : World} {n : Nat} {cs : List Value} (h : Typed Tryz.prog w n 43 cs) : ∃ d : BrokerD, BrokerD.In AnyB w cs d ∧ d.Ok := by
 obtain ⟨hl, m, hf⟩ := typed_struct Tryz.underlying43 h
 have hC : Tryz.prog.cellsOf 43 = 13 := by kernel_rfl
 have hs0 : Tryz.prog.cellsOf 3 = 1 := by kernel_rfl
 have hs1 : Tryz.prog.cellsOf 33 = 1 := by kernel_rfl
 have hs2 : Tryz.prog.cellsOf 34 = 1 := by kernel_rfl
 have hs3 : Tryz.prog.cellsOf 35 = 1 := by kernel_rfl
 have hs4 : Tryz.prog.cellsOf 41 = 9 := by kernel_rfl
 rw [hC] at hl
 match cs, hl with
 | [x0, x1, x2, x3, x4, x5, x6, x7, x8, x9, x10, x11, x12], _ =>
   have f0 := hf _ (List.mem_iff_getElem?.2 ⟨0, rfl⟩)
   simp only [hs0, List.drop_zero, List.take_succ_cons, List.take_zero] at f0
   obtain ⟨a0, e0, w0⟩ := typed_int Tryz.underlying3 f0
   obtain rfl : x0 = _ := by simpa using e0
   have f1 := hf _ (List.mem_iff_getElem?.2 ⟨1, rfl⟩)
   simp only [hs1, List.drop_succ_cons, List.drop_zero, List.take_succ_cons, List.take_zero] at f1
   obtain ⟨a1, i1, w1⟩ := LogD.typed f1
   obtain ⟨A0, c0, e1, s0⟩ := i1
   simp only [List.cons.injEq, and_true] at e1
   obtain rfl := e1
   have f2 := hf _ (List.mem_iff_getElem?.2 ⟨2, rfl⟩)
   simp only [hs2, List.drop_succ_cons, List.drop_zero, List.take_succ_cons, List.take_zero] at f2
   obtain ⟨A1, c1, a2, e2, s1, w2⟩ := typed_sliceF ReceiptD.cells ReceiptD.Ok 3 Tryz.underlying34 (by kernel_rfl) (by decide) ReceiptD.cells_length (fun m es h => ReceiptD.typed h) f2
   obtain rfl : x2 = _ := by simpa using e2
   have f3 := hf _ (List.mem_iff_getElem?.2 ⟨3, rfl⟩)
   simp only [hs3, List.drop_succ_cons, List.drop_zero, List.take_succ_cons, List.take_zero] at f3
   obtain ⟨A2, c2, a3, e3, s2, w3⟩ := typed_sliceF HeadD.cells HeadD.Ok 5 Tryz.underlying35 (by kernel_rfl) (by decide) HeadD.cells_length (fun m es h => HeadD.typed h) f3
   obtain rfl : x3 = _ := by simpa using e3
   have f4 := hf _ (List.mem_iff_getElem?.2 ⟨4, rfl⟩)
   simp only [hs4, List.drop_succ_cons, List.drop_zero, List.take_succ_cons, List.take_zero] at f4
   obtain ⟨a4, i4, w4⟩ := SealD.typed f4
   obtain ⟨A3, c3, A4, c4, e4, s3, s4⟩ := i4
   simp only [List.cons.injEq, and_true] at e4
   obtain ⟨rfl, rfl, rfl, rfl, rfl, rfl, rfl, rfl, rfl⟩ := e4
   exact ⟨⟨a0, a1, a2, a3, a4⟩, ⟨_, _, _, _, _, _, _, _, _, _, rfl, s0, s1, s2, s3, s4⟩, w0, w1, w2, w3, w4⟩
theorem szBroker_any (d : BrokerD) (A0 : Option Addr) (c0 : Nat) (A1 : Option Addr) (c1 : Nat) (A2 : Option Addr) (c2 : Nat) (A3 : Option Addr) (c3 : Nat) (A4 : Option Addr) (c4 : Nat) (left : Int) (w : World) (hok : d.Ok) (s0 : SlF AnyB EntryD.cells 5 w A0 d.log.entries c0) (s1 : SlF AnyB ReceiptD.cells 3 w A1 d.receipts c1) (s2 : SlF AnyB HeadD.cells 5 w A2 d.heads c2) (s3 : SlF AnyB sone 1 w A3 d.sealed.leaves.peaks c3) (s4 : SlF AnyB sone 1 w A4 d.sealed.taken.peaks c4) (h0 : 0 ≤ left) (h1 : left ≤ 1048576) :
 Calls Tryz.prog 14 #[.agg #[.int .i64 d.width, .slice A0 d.log.entries.length c0, .slice A1 d.receipts.length c1, .slice A2 d.heads.length c2, .int .i64 d.sealed.leaves.size, .slice A3 d.sealed.leaves.peaks.length c3, .int .i64 d.sealed.taken.size, .slice A4 d.sealed.taken.peaks.length c4, .int .i64 d.sealed.head.number, .int .i64 d.sealed.head.size, .string d.sealed.head.root, .int .i64 d.sealed.head.taken, .string d.sealed.head.takenRoot], .int .i64 left] w fun e w' => e = .returned (.int .i64 (szL d.lens left)) ∧ Ext w w' := by
 obtain ⟨-, k_log, k_receipts, k_heads, k_sealed⟩ := hok
 have S0 := hU s0; clear s0
 have S1 := hU s1; clear s1
 have S2 := hU s2; clear s2
 have S3 := hU s3; clear s3
 have S4 := hU s4; clear s4
 have K_log := hU k_log; clear k_log
 have K_receipts := hU k_receipts; clear k_receipts
 have K_heads := hU k_heads; clear k_heads
 have K_sealed := hU k_sealed; clear k_sealed
 have K0 := hU (Blk.new w 43 #[.int .i64 d.width, .slice A0 d.log.entries.length c0, .slice A1 d.receipts.length c1, .slice A2 d.heads.length c2, .int .i64 d.sealed.leaves.size, .slice A3 d.sealed.leaves.peaks.length c3, .int .i64 d.sealed.taken.size, .slice A4 d.sealed.taken.peaks.length c4, .int .i64 d.sealed.head.number, .int .i64 d.sealed.head.size, .string d.sealed.head.root, .int .i64 d.sealed.head.taken, .string d.sealed.head.takenRoot])
 have He := hU (Ext.new (Below.refl w.heap.size w) (.cells #[.int .i64 d.width, .slice A0 d.log.entries.length c0, .slice A1 d.receipts.length c1, .slice A2 d.heads.length c2, .int .i64 d.sealed.leaves.size, .slice A3 d.sealed.leaves.peaks.length c3, .int .i64 d.sealed.taken.size, .slice A4 d.sealed.taken.peaks.length c4, .int .i64 d.sealed.head.number, .int .i64 d.sealed.head.size, .string d.sealed.head.root, .int .i64 d.sealed.head.taken, .string d.sealed.head.takenRoot] 43))
 obtain ⟨fin, hfin⟩ : ∃ fin, fin = szL d.lens left := ⟨_, rfl⟩
 have F : Hid (szL (d.log.lens ++ ((d.receipts.length :: d.receipts.flatMap ReceiptD.lens) ++ ((d.heads.length :: d.heads.flatMap HeadD.lens) ++ (d.sealed.lens ++ [])))) left = fin) := hU hfin.symm
 rw [← hfin]
 clear hfin
 go_enter Tryz.func14, Tryz.ntmps14
 go_wp2_with fail
 refine (szLog_any d.log A0 c0 left _ K_log.out (S0.out.ext He.out) h0 h1).mono ?_
 rintro e w1 ⟨rfl, hx⟩
 have K1 := K0.out.ext hx; have he := He.out.next hx; clear hx K0 He
 obtain ⟨r0, m0⟩ := K1.rules
 have hp := szL_pos d.log.lens left h0
 have hqq := szL_le d.log.lens left
 by_cases n0 : szL d.log.lens left < 0
 · have E := hU (show (-1 : Int) = fin by rw [← F.out, szL_append _ _ _ h0, if_pos n0])
   have ev : szL d.log.lens left = -1 := by omega
   clear hp hqq F
   go_wp2_with fail
   go_ret
   exact ⟨ret_int E.out, he⟩
 have F2 : Hid (szL ((d.receipts.length :: d.receipts.flatMap ReceiptD.lens) ++ ((d.heads.length :: d.heads.flatMap HeadD.lens) ++ (d.sealed.lens ++ []))) (szL d.log.lens left) = fin) := hU (by rw [← F.out, szL_append _ _ _ h0, if_neg n0])
 clear F
 have u0 : 0 ≤ szL d.log.lens left := by omega
 have v0 : szL d.log.lens left ≤ 1048576 := by omega
 clear hp hqq
 generalize szL d.log.lens left = q0 at *
 have F := F2
 clear F2
 go_wp2_with fail
 refine (szReceiptS_any A1 c1 d.receipts q0 _ (S1.out.ext he).reads K_receipts.out S1.out.len u0 v0).mono ?_
 rintro e w2 ⟨rfl, hx⟩
 replace K1 := K1.ext hx; replace he := he.next hx; clear hx r0 m0
 obtain ⟨r0, m0⟩ := K1.rules
 have hp := szL_pos (d.receipts.length :: d.receipts.flatMap ReceiptD.lens) q0 u0
 have hqq := szL_le (d.receipts.length :: d.receipts.flatMap ReceiptD.lens) q0
 by_cases n1 : szL (d.receipts.length :: d.receipts.flatMap ReceiptD.lens) q0 < 0
 · have E := hU (show (-1 : Int) = fin by rw [← F.out, szL_append _ _ _ u0, if_pos n1])
   have ev : szL (d.receipts.length :: d.receipts.flatMap ReceiptD.lens) q0 = -1 := by omega
   clear hp hqq F
   go_wp2_with fail
   go_ret
   exact ⟨ret_int E.out, he⟩
 have F2 : Hid (szL ((d.heads.length :: d.heads.flatMap HeadD.lens) ++ (d.sealed.lens ++ [])) (szL (d.receipts.length :: d.receipts.flatMap ReceiptD.lens) q0) = fin) := hU (by rw [← F.out, szL_append _ _ _ u0, if_neg n1])
 clear F
 have u1 : 0 ≤ szL (d.receipts.length :: d.receipts.flatMap ReceiptD.lens) q0 := by omega
 have v1 : szL (d.receipts.length :: d.receipts.flatMap ReceiptD.lens) q0 ≤ 1048576 := by omega
 clear hp hqq
 generalize szL (d.receipts.length :: d.receipts.flatMap ReceiptD.lens) q0 = q1 at *
 have F := F2
 clear F2
 go_wp2_with fail
 refine (szHeadS_any A2 c2 d.heads q1 _ (S2.out.ext he).reads K_heads.out S2.out.len u1 v1).mono ?_
 rintro e w3 ⟨rfl, hx⟩
 replace K1 := K1.ext hx; replace he := he.next hx; clear hx r0 m0
 obtain ⟨r0, m0⟩ := K1.rules
 have hp := szL_pos (d.heads.length :: d.heads.flatMap HeadD.lens) q1 u1
 have hqq := szL_le (d.heads.length :: d.heads.flatMap HeadD.lens) q1
 by_cases n2 : szL (d.heads.length :: d.heads.flatMap HeadD.lens) q1 < 0
 · have E := hU (show (-1 : Int) = fin by rw [← F.out, szL_append _ _ _ u1, if_pos n2])
   have ev : szL (d.heads.length :: d.heads.flatMap HeadD.lens) q1 = -1 := by omega
   clear hp hqq F
   go_wp2_with fail
   go_ret
   exact ⟨ret_int E.out, he⟩
 have F2 : Hid (szL (d.sealed.lens ++ []) (szL (d.heads.length :: d.heads.flatMap HeadD.lens) q1) = fin) := hU (by rw [← F.out, szL_append _ _ _ u1, if_neg n2])
 clear F
 have u2 : 0 ≤ szL (d.heads.length :: d.heads.flatMap HeadD.lens) q1 := by omega
 have v2 : szL (d.heads.length :: d.heads.flatMap HeadD.lens) q1 ≤ 1048576 := by omega
 clear hp hqq
 generalize szL (d.heads.length :: d.heads.flatMap HeadD.lens) q1 = q2 at *
 have F := F2
 clear F2
 go_wp2_with fail
 refine (szSeal_any d.sealed A3 c3 A4 c4 q2 _ K_sealed.out (S3.out.ext he) (S4.out.ext he) u2 v2).mono ?_
 rintro e w4 ⟨rfl, hx⟩
 replace K1 := K1.ext hx; replace he := he.next hx; clear hx r0 m0
 obtain ⟨r0, m0⟩ := K1.rules
 have hp := szL_pos d.sealed.lens q2 u2
 have hqq := szL_le d.sealed.lens q2
 by_cases n3 : szL d.sealed.lens q2 < 0
 · have E := hU (show (-1 : Int) = fin by rw [← F.out, szL_append _ _ _ u2, if_pos n3])
   have ev : szL d.sealed.lens q2 = -1 := by omega
   clear hp hqq F
   go_wp2_with fail
   go_ret
   exact ⟨ret_int E.out, he⟩
 have F2 : Hid (szL ([]) (szL d.sealed.lens q2) = fin) := hU (by rw [← F.out, szL_append _ _ _ u2, if_neg n3])
 clear F
 have u3 : 0 ≤ szL d.sealed.lens q2 := by omega
 have v3 : szL d.sealed.lens q2 ≤ 1048576 := by omega
 clear hp hqq
 generalize szL d.sealed.lens q2 = q3 at *
 have F := F2
 clear F2
 go_wp2_with fail
 go_ret
 exact ⟨ret_int (show q3 = fin from F.out), he⟩
theorem eqBroker_same (d : BrokerD) (A0 : Option Addr) (c0 : Nat) (A1 : Option Addr) (c1 : Nat) (A2 : Option Addr) (c2 : Nat) (A3 : Option Addr) (c3 : Nat) (A4 : Option Addr) (c4 : Nat) (B0 : Option Addr) (e0 : Nat) (B1 : Option Addr) (e1 : Nat) (B2 : Option Addr) (e2 : Nat) (B3 : Option Addr) (e3 : Nat) (B4 : Option Addr) (e4 : Nat) (w : World) (s0 : SlF AnyB EntryD.cells 5 w A0 d.log.entries c0) (s1 : SlF AnyB ReceiptD.cells 3 w A1 d.receipts c1) (s2 : SlF AnyB HeadD.cells 5 w A2 d.heads c2) (s3 : SlF AnyB sone 1 w A3 d.sealed.leaves.peaks c3) (s4 : SlF AnyB sone 1 w A4 d.sealed.taken.peaks c4) (t0 : SlF AnyB EntryD.cells 5 w B0 d.log.entries e0) (t1 : SlF AnyB ReceiptD.cells 3 w B1 d.receipts e1) (t2 : SlF AnyB HeadD.cells 5 w B2 d.heads e2) (t3 : SlF AnyB sone 1 w B3 d.sealed.leaves.peaks e3) (t4 : SlF AnyB sone 1 w B4 d.sealed.taken.peaks e4) (hf : ∀ n ∈ d.lens, n ≤ 1048576) :
 Calls Tryz.prog 20 #[.agg #[.int .i64 d.width, .slice A0 d.log.entries.length c0, .slice A1 d.receipts.length c1, .slice A2 d.heads.length c2, .int .i64 d.sealed.leaves.size, .slice A3 d.sealed.leaves.peaks.length c3, .int .i64 d.sealed.taken.size, .slice A4 d.sealed.taken.peaks.length c4, .int .i64 d.sealed.head.number, .int .i64 d.sealed.head.size, .string d.sealed.head.root, .int .i64 d.sealed.head.taken, .string d.sealed.head.takenRoot], .agg #[.int .i64 d.width, .slice B0 d.log.entries.length e0, .slice B1 d.receipts.length e1, .slice B2 d.heads.length e2, .int .i64 d.sealed.leaves.size, .slice B3 d.sealed.leaves.peaks.length e3, .int .i64 d.sealed.taken.size, .slice B4 d.sealed.taken.peaks.length e4, .int .i64 d.sealed.head.number, .int .i64 d.sealed.head.size, .string d.sealed.head.root, .int .i64 d.sealed.head.taken, .string d.sealed.head.takenRoot]] w fun e w' => e = .returned (.bool true) ∧ Ext w w' := by
 have l_log : ∀ n ∈ d.log.lens, n ≤ 1048576 := fun n hn => hf n (by simp only [BrokerD.lens, List.mem_append]; simp [hn])
 have l_receipts : d.receipts.length ≤ 1048576 := hf _ (by simp [BrokerD.lens])
 have l_heads : d.heads.length ≤ 1048576 := hf _ (by simp [BrokerD.lens])
 have l_sealed : ∀ n ∈ d.sealed.lens, n ≤ 1048576 := fun n hn => hf n (by simp only [BrokerD.lens, List.mem_append]; simp [hn])
 have S0 := hU s0; have T0 := hU t0; clear s0 t0
 have S1 := hU s1; have T1 := hU t1; clear s1 t1
 have S2 := hU s2; have T2 := hU t2; clear s2 t2
 have S3 := hU s3; have T3 := hU t3; clear s3 t3
 have S4 := hU s4; have T4 := hU t4; clear s4 t4
 clear hf
 obtain ⟨K0, K1, he⟩ := two_new w #[.int .i64 d.width, .slice A0 d.log.entries.length c0, .slice A1 d.receipts.length c1, .slice A2 d.heads.length c2, .int .i64 d.sealed.leaves.size, .slice A3 d.sealed.leaves.peaks.length c3, .int .i64 d.sealed.taken.size, .slice A4 d.sealed.taken.peaks.length c4, .int .i64 d.sealed.head.number, .int .i64 d.sealed.head.size, .string d.sealed.head.root, .int .i64 d.sealed.head.taken, .string d.sealed.head.takenRoot] #[.int .i64 d.width, .slice B0 d.log.entries.length e0, .slice B1 d.receipts.length e1, .slice B2 d.heads.length e2, .int .i64 d.sealed.leaves.size, .slice B3 d.sealed.leaves.peaks.length e3, .int .i64 d.sealed.taken.size, .slice B4 d.sealed.taken.peaks.length e4, .int .i64 d.sealed.head.number, .int .i64 d.sealed.head.size, .string d.sealed.head.root, .int .i64 d.sealed.head.taken, .string d.sealed.head.takenRoot] 59 59
 go_enter Tryz.func20, Tryz.ntmps20
 obtain ⟨r0, f0⟩ := K0.rules
 obtain ⟨r1, f1⟩ := K1.rules
 go_wp2_with fail
 obtain ⟨g, hg⟩ : ∃ g, g = w.heap.size := ⟨_, rfl⟩
 rw [← hg] at K0 K1
 rw [← hg]
 clear hg r0 f0 r1 f1
 refine (eqLog_same d.log A0 c0 B0 e0 _ (S0.out.ext he) (T0.out.ext he) l_log).mono ?_
 rintro e x1 ⟨rfl, hx⟩
 replace K0 := K0.ext hx; replace K1 := K1.ext hx; replace he := he.next hx; clear hx
 obtain ⟨r0, f0⟩ := K0.rules
 obtain ⟨r1, f1⟩ := K1.rules
 go_wp2_with fail
 clear r0 f0 r1 f1
 refine (eqReceiptS_same A1 B1 c1 e1 d.receipts _ (S1.out.ext he).reads (T1.out.ext he).reads l_receipts).mono ?_
 rintro e x2 ⟨rfl, hx⟩
 replace K0 := K0.ext hx; replace K1 := K1.ext hx; replace he := he.next hx; clear hx
 obtain ⟨r0, f0⟩ := K0.rules
 obtain ⟨r1, f1⟩ := K1.rules
 go_wp2_with fail
 clear r0 f0 r1 f1
 refine (eqHeadS_same A2 B2 c2 e2 d.heads _ (S2.out.ext he).reads (T2.out.ext he).reads l_heads).mono ?_
 rintro e x3 ⟨rfl, hx⟩
 replace K0 := K0.ext hx; replace K1 := K1.ext hx; replace he := he.next hx; clear hx
 obtain ⟨r0, f0⟩ := K0.rules
 obtain ⟨r1, f1⟩ := K1.rules
 go_wp2_with fail
 clear r0 f0 r1 f1
 refine (eqSeal_same d.sealed A3 c3 A4 c4 B3 e3 B4 e4 _ (S3.out.ext he) (S4.out.ext he) (T3.out.ext he) (T4.out.ext he) l_sealed).mono ?_
 rintro e x4 ⟨rfl, hx⟩
 replace K0 := K0.ext hx; replace K1 := K1.ext hx; replace he := he.next hx; clear hx
 obtain ⟨r0, f0⟩ := K0.rules
 obtain ⟨r1, f1⟩ := K1.rules
 go_wp2_with fail
 clear r0 f0 r1 f1
 go_ret
 exact ⟨rfl, he⟩
end Go.Proofs.YtlgdghpnfclgpaaGreat
