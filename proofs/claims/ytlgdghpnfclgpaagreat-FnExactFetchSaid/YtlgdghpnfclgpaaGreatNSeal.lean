/-
  NRange; NSeal: No condition.
-/
import Derived.Test.YtlgdghpnfclgpaaGreatNest
import Derived.Test.YtlgdghpnfclgpaaGreatMerkle
import Derived.StillTailTactics
import Derived.Test.YtlgdghpnfclgpaaGreatConvHead
namespace Go.Proofs.YtlgdghpnfclgpaaGreat
set_option maxHeartbeats 2000000
set_option maxRecDepth 100000
set_option linter.unusedSimpArgs false
open Go.RowKit
set_option linter.unusedVariables false
structure RangeD where
 size : Int
 peaks : List ByteArray
def RangeD.In : Rep RangeD := fun p w cs d => ∃ (A0 : Option Addr) (c0 : Nat), cs = [.int .i64 d.size, .slice A0 d.peaks.length c0] ∧ SlF p sone 1 w A0 d.peaks c0
def RangeD.Ok (d : RangeD) : Prop := (Lit.int .i64 d.size).wf = true ∧ (∀ s ∈ d.peaks, s.size ≤ maxLen)
def RangeD.lens (d : RangeD) : List Nat := (d.peaks.length :: d.peaks.flatMap slens) ++ []
theorem RangeD.typed {w : World} {n : Nat} {cs : List Value} (h : Typed Tryz.prog w n 37 cs) : ∃ d : RangeD, RangeD.In AnyB w cs d ∧ d.Ok := by
 obtain ⟨hl, m, hf⟩ := typed_struct Tryz.underlying37 h
 have hC : Tryz.prog.cellsOf 37 = 2 := by kernel_rfl
 have hs0 : Tryz.prog.cellsOf 3 = 1 := by kernel_rfl
 have hs1 : Tryz.prog.cellsOf 22 = 1 := by kernel_rfl
 rw [hC] at hl
 match cs, hl with
 | [x0, x1], _ =>
   have f0 := hf _ (List.mem_iff_getElem?.2 ⟨0, rfl⟩)
   simp only [hs0, List.drop_zero, List.take_succ_cons, List.take_zero] at f0
   obtain ⟨a0, e0, w0⟩ := typed_int Tryz.underlying3 f0
   obtain rfl : x0 = _ := by simpa using e0
   have f1 := hf _ (List.mem_iff_getElem?.2 ⟨1, rfl⟩)
   simp only [hs1, List.drop_succ_cons, List.drop_zero, List.take_succ_cons, List.take_zero] at f1
   obtain ⟨A0, c0, a1, e1, s0, w1⟩ := typed_sliceF sone (fun s => s.size ≤ maxLen) 1 Tryz.underlying22 (by kernel_rfl) (by decide) sone_length (fun m es h => string_typed h) f1
   obtain rfl : x1 = _ := by simpa using e1
   exact ⟨⟨a0, a1⟩, ⟨_, _, rfl, s0⟩, w0, w1⟩
theorem szRange_any (d : RangeD) (A0 : Option Addr) (c0 : Nat) (left : Int) (w : World) (hok : d.Ok) (s0 : SlF AnyB sone 1 w A0 d.peaks c0) (h0 : 0 ≤ left) (h1 : left ≤ 1048576) :
 Calls Tryz.prog 97 #[.agg #[.int .i64 d.size, .slice A0 d.peaks.length c0], .int .i64 left] w fun e w' => e = .returned (.int .i64 (szL d.lens left)) ∧ Ext w w' := by
 obtain ⟨-, k_peaks⟩ := hok
 have S0 := hU s0; clear s0
 have K_peaks := hU k_peaks; clear k_peaks
 have K0 := hU (Blk.new w 37 #[.int .i64 d.size, .slice A0 d.peaks.length c0])
 have He := hU (Ext.new (Below.refl w.heap.size w) (.cells #[.int .i64 d.size, .slice A0 d.peaks.length c0] 37))
 obtain ⟨fin, hfin⟩ : ∃ fin, fin = szL d.lens left := ⟨_, rfl⟩
 have F : Hid (szL ((d.peaks.length :: d.peaks.flatMap slens) ++ []) left = fin) := hU hfin.symm
 rw [← hfin]
 clear hfin
 go_enter Tryz.func97, Tryz.ntmps97
 go_wp2_with fail
 refine (szStringS_any A0 c0 d.peaks left _ (S0.out.ext He.out) K_peaks.out h0 h1).mono ?_
 rintro e w1 ⟨rfl, hx⟩
 have K1 := K0.out.ext hx; have he := He.out.next hx; clear hx K0 He
 obtain ⟨r0, m0⟩ := K1.rules
 have hp := szL_pos (d.peaks.length :: d.peaks.flatMap slens) left h0
 have hqq := szL_le (d.peaks.length :: d.peaks.flatMap slens) left
 by_cases n0 : szL (d.peaks.length :: d.peaks.flatMap slens) left < 0
 · have E := hU (show (-1 : Int) = fin by rw [← F.out, szL_append _ _ _ h0, if_pos n0])
   have ev : szL (d.peaks.length :: d.peaks.flatMap slens) left = -1 := by omega
   clear hp hqq F
   go_wp2_with fail
   go_ret
   exact ⟨ret_int E.out, he⟩
 have F2 : Hid (szL ([]) (szL (d.peaks.length :: d.peaks.flatMap slens) left) = fin) := hU (by rw [← F.out, szL_append _ _ _ h0, if_neg n0])
 clear F
 have u0 : 0 ≤ szL (d.peaks.length :: d.peaks.flatMap slens) left := by omega
 have v0 : szL (d.peaks.length :: d.peaks.flatMap slens) left ≤ 1048576 := by omega
 clear hp hqq
 generalize szL (d.peaks.length :: d.peaks.flatMap slens) left = q0 at *
 have F := F2
 clear F2
 go_wp2_with fail
 go_ret
 exact ⟨ret_int (show q0 = fin from F.out), he⟩
theorem eqRange_same (d : RangeD) (A0 : Option Addr) (c0 : Nat) (B0 : Option Addr) (e0 : Nat) (w : World) (s0 : SlF AnyB sone 1 w A0 d.peaks c0) (t0 : SlF AnyB sone 1 w B0 d.peaks e0) (hf : ∀ n ∈ d.lens, n ≤ 1048576) :
 Calls Tryz.prog 115 #[.agg #[.int .i64 d.size, .slice A0 d.peaks.length c0], .agg #[.int .i64 d.size, .slice B0 d.peaks.length e0]] w fun e w' => e = .returned (.bool true) ∧ Ext w w' := by
 have l_peaks : d.peaks.length ≤ 1048576 := hf _ (by simp [RangeD.lens])
 have S0 := hU s0; have T0 := hU t0; clear s0 t0
 clear hf
 obtain ⟨K0, K1, he⟩ := two_new w #[.int .i64 d.size, .slice A0 d.peaks.length c0] #[.int .i64 d.size, .slice B0 d.peaks.length e0] 54 54
 go_enter Tryz.func115, Tryz.ntmps115
 obtain ⟨r0, f0⟩ := K0.rules
 obtain ⟨r1, f1⟩ := K1.rules
 go_wp2_with fail
 obtain ⟨g, hg⟩ : ∃ g, g = w.heap.size := ⟨_, rfl⟩
 rw [← hg] at K0 K1
 rw [← hg]
 clear hg r0 f0 r1 f1
 refine (eqStringS_slf A0 B0 c0 e0 d.peaks _ (S0.out.ext he) (T0.out.ext he) l_peaks).mono ?_
 rintro e x1 ⟨rfl, hx⟩
 replace K0 := K0.ext hx; replace K1 := K1.ext hx; replace he := he.next hx; clear hx
 obtain ⟨r0, f0⟩ := K0.rules
 obtain ⟨r1, f1⟩ := K1.rules
 go_wp2_with fail
 clear r0 f0 r1 f1
 go_ret
 exact ⟨rfl, he⟩
structure SealD where
 leaves : RangeD
 taken : RangeD
 head : HeadD
def SealD.In : Rep SealD := fun p w cs d => ∃ (A0 : Option Addr) (c0 : Nat) (A1 : Option Addr) (c1 : Nat), cs = [.int .i64 d.leaves.size, .slice A0 d.leaves.peaks.length c0, .int .i64 d.taken.size, .slice A1 d.taken.peaks.length c1, .int .i64 d.head.number, .int .i64 d.head.size, .string d.head.root, .int .i64 d.head.taken, .string d.head.takenRoot] ∧ SlF p sone 1 w A0 d.leaves.peaks c0 ∧ SlF p sone 1 w A1 d.taken.peaks c1
def SealD.Ok (d : SealD) : Prop := d.leaves.Ok ∧ d.taken.Ok ∧ d.head.Ok
def SealD.lens (d : SealD) : List Nat := d.leaves.lens ++ (d.taken.lens ++ (d.head.lens ++ []))
theorem SealD.typed {w : World} {n : Nat} {cs : List Value} (h : Typed Tryz.prog w n 41 cs) : ∃ d : SealD, SealD.In AnyB w cs d ∧ d.Ok := by
 obtain ⟨hl, m, hf⟩ := typed_struct Tryz.underlying41 h
 have hC : Tryz.prog.cellsOf 41 = 9 := by kernel_rfl
 have hs0 : Tryz.prog.cellsOf 37 = 2 := by kernel_rfl
 have hs1 : Tryz.prog.cellsOf 39 = 5 := by kernel_rfl
 rw [hC] at hl
 match cs, hl with
 | [x0, x1, x2, x3, x4, x5, x6, x7, x8], _ =>
   have f0 := hf _ (List.mem_iff_getElem?.2 ⟨0, rfl⟩)
   simp only [hs0, List.drop_zero, List.take_succ_cons, List.take_zero] at f0
   obtain ⟨a0, i0, w0⟩ := RangeD.typed f0
   obtain ⟨A0, c0, e0, s0⟩ := i0
   simp only [List.cons.injEq, and_true] at e0
   obtain ⟨rfl, rfl⟩ := e0
   have f1 := hf _ (List.mem_iff_getElem?.2 ⟨1, rfl⟩)
   simp only [hs0, List.drop_succ_cons, List.drop_zero, List.take_succ_cons, List.take_zero] at f1
   obtain ⟨a1, i1, w1⟩ := RangeD.typed f1
   obtain ⟨A1, c1, e1, s1⟩ := i1
   simp only [List.cons.injEq, and_true] at e1
   obtain ⟨rfl, rfl⟩ := e1
   have f2 := hf _ (List.mem_iff_getElem?.2 ⟨2, rfl⟩)
   simp only [hs1, List.drop_succ_cons, List.drop_zero, List.take_succ_cons, List.take_zero] at f2
   obtain ⟨a2, e2, w2⟩ := HeadD.typed f2
   simp only [HeadD.cells, List.cons.injEq, and_true] at e2
   obtain ⟨rfl, rfl, rfl, rfl, rfl⟩ := e2
   exact ⟨⟨a0, a1, a2⟩, ⟨_, _, _, _, rfl, s0, s1⟩, w0, w1, w2⟩
theorem szSeal_any (d : SealD) (A0 : Option Addr) (c0 : Nat) (A1 : Option Addr) (c1 : Nat) (left : Int) (w : World) (hok : d.Ok) (s0 : SlF AnyB sone 1 w A0 d.leaves.peaks c0) (s1 : SlF AnyB sone 1 w A1 d.taken.peaks c1) (h0 : 0 ≤ left) (h1 : left ≤ 1048576) :
 Calls Tryz.prog 44 #[.agg #[.int .i64 d.leaves.size, .slice A0 d.leaves.peaks.length c0, .int .i64 d.taken.size, .slice A1 d.taken.peaks.length c1, .int .i64 d.head.number, .int .i64 d.head.size, .string d.head.root, .int .i64 d.head.taken, .string d.head.takenRoot], .int .i64 left] w fun e w' => e = .returned (.int .i64 (szL d.lens left)) ∧ Ext w w' := by
 obtain ⟨k_leaves, k_taken, k_head⟩ := hok
 have S0 := hU s0; clear s0
 have S1 := hU s1; clear s1
 have K_leaves := hU k_leaves; clear k_leaves
 have K_taken := hU k_taken; clear k_taken
 have K_head := hU k_head; clear k_head
 have K0 := hU (Blk.new w 41 #[.int .i64 d.leaves.size, .slice A0 d.leaves.peaks.length c0, .int .i64 d.taken.size, .slice A1 d.taken.peaks.length c1, .int .i64 d.head.number, .int .i64 d.head.size, .string d.head.root, .int .i64 d.head.taken, .string d.head.takenRoot])
 have He := hU (Ext.new (Below.refl w.heap.size w) (.cells #[.int .i64 d.leaves.size, .slice A0 d.leaves.peaks.length c0, .int .i64 d.taken.size, .slice A1 d.taken.peaks.length c1, .int .i64 d.head.number, .int .i64 d.head.size, .string d.head.root, .int .i64 d.head.taken, .string d.head.takenRoot] 41))
 obtain ⟨fin, hfin⟩ : ∃ fin, fin = szL d.lens left := ⟨_, rfl⟩
 have F : Hid (szL (d.leaves.lens ++ (d.taken.lens ++ (d.head.lens ++ []))) left = fin) := hU hfin.symm
 rw [← hfin]
 clear hfin
 go_enter Tryz.func44, Tryz.ntmps44
 go_wp2_with fail
 refine (szRange_any d.leaves A0 c0 left _ K_leaves.out (S0.out.ext He.out) h0 h1).mono ?_
 rintro e w1 ⟨rfl, hx⟩
 have K1 := K0.out.ext hx; have he := He.out.next hx; clear hx K0 He
 obtain ⟨r0, m0⟩ := K1.rules
 have hp := szL_pos d.leaves.lens left h0
 have hqq := szL_le d.leaves.lens left
 by_cases n0 : szL d.leaves.lens left < 0
 · have E := hU (show (-1 : Int) = fin by rw [← F.out, szL_append _ _ _ h0, if_pos n0])
   have ev : szL d.leaves.lens left = -1 := by omega
   clear hp hqq F
   go_wp2_with fail
   go_ret
   exact ⟨ret_int E.out, he⟩
 have F2 : Hid (szL (d.taken.lens ++ (d.head.lens ++ [])) (szL d.leaves.lens left) = fin) := hU (by rw [← F.out, szL_append _ _ _ h0, if_neg n0])
 clear F
 have u0 : 0 ≤ szL d.leaves.lens left := by omega
 have v0 : szL d.leaves.lens left ≤ 1048576 := by omega
 clear hp hqq
 generalize szL d.leaves.lens left = q0 at *
 have F := F2
 clear F2
 go_wp2_with fail
 refine (szRange_any d.taken A1 c1 q0 _ K_taken.out (S1.out.ext he) u0 v0).mono ?_
 rintro e w2 ⟨rfl, hx⟩
 replace K1 := K1.ext hx; replace he := he.next hx; clear hx r0 m0
 obtain ⟨r0, m0⟩ := K1.rules
 have hp := szL_pos d.taken.lens q0 u0
 have hqq := szL_le d.taken.lens q0
 by_cases n1 : szL d.taken.lens q0 < 0
 · have E := hU (show (-1 : Int) = fin by rw [← F.out, szL_append _ _ _ u0, if_pos n1])
   have ev : szL d.taken.lens q0 = -1 := by omega
   clear hp hqq F
   go_wp2_with fail
   go_ret
   exact ⟨ret_int E.out, he⟩
 have F2 : Hid (szL (d.head.lens ++ []) (szL d.taken.lens q0) = fin) := hU (by rw [← F.out, szL_append _ _ _ u0, if_neg n1])
 clear F
 have u1 : 0 ≤ szL d.taken.lens q0 := by omega
 have v1 : szL d.taken.lens q0 ≤ 1048576 := by omega
 clear hp hqq
 generalize szL d.taken.lens q0 = q1 at *
 have F := F2
 clear F2
 go_wp2_with fail
 refine (szHead_any d.head q1 _ K_head.out u1 v1).mono ?_
 rintro e w3 ⟨rfl, hx⟩
 replace K1 := K1.ext hx; replace he := he.next hx; clear hx r0 m0
 obtain ⟨r0, m0⟩ := K1.rules
 have hp := szL_pos d.head.lens q1 u1
 have hqq := szL_le d.head.lens q1
 by_cases n2 : szL d.head.lens q1 < 0
 · have E := hU (show (-1 : Int) = fin by rw [← F.out, szL_append _ _ _ u1, if_pos n2])
   have ev : szL d.head.lens q1 = -1 := by omega
   clear hp hqq F
   go_wp2_with fail
   go_ret
   exact ⟨ret_int E.out, he⟩
 have F2 : Hid (szL ([]) (szL d.head.lens q1) = fin) := hU (by rw [← F.out, szL_append _ _ _ u1, if_neg n2])
 clear F
 have u2 : 0 ≤ szL d.head.lens q1 := by omega
 have v2 : szL d.head.lens q1 ≤ 1048576 := by omega
 clear hp hqq
 generalize szL d.head.lens q1 = q2 at *
 have F := F2
 clear F2
 go_wp2_with fail
 go_ret
 exact ⟨ret_int (show q2 = fin from F.out), he⟩
theorem eqSeal_same (d : SealD) (A0 : Option Addr) (c0 : Nat) (A1 : Option Addr) (c1 : Nat) (B0 : Option Addr) (e0 : Nat) (B1 : Option Addr) (e1 : Nat) (w : World) (s0 : SlF AnyB sone 1 w A0 d.leaves.peaks c0) (s1 : SlF AnyB sone 1 w A1 d.taken.peaks c1) (t0 : SlF AnyB sone 1 w B0 d.leaves.peaks e0) (t1 : SlF AnyB sone 1 w B1 d.taken.peaks e1) (hf : ∀ n ∈ d.lens, n ≤ 1048576) :
 Calls Tryz.prog 56 #[.agg #[.int .i64 d.leaves.size, .slice A0 d.leaves.peaks.length c0, .int .i64 d.taken.size, .slice A1 d.taken.peaks.length c1, .int .i64 d.head.number, .int .i64 d.head.size, .string d.head.root, .int .i64 d.head.taken, .string d.head.takenRoot], .agg #[.int .i64 d.leaves.size, .slice B0 d.leaves.peaks.length e0, .int .i64 d.taken.size, .slice B1 d.taken.peaks.length e1, .int .i64 d.head.number, .int .i64 d.head.size, .string d.head.root, .int .i64 d.head.taken, .string d.head.takenRoot]] w fun e w' => e = .returned (.bool true) ∧ Ext w w' := by
 have l_leaves : ∀ n ∈ d.leaves.lens, n ≤ 1048576 := fun n hn => hf n (by simp only [SealD.lens, List.mem_append]; simp [hn])
 have l_taken : ∀ n ∈ d.taken.lens, n ≤ 1048576 := fun n hn => hf n (by simp only [SealD.lens, List.mem_append]; simp [hn])
 have S0 := hU s0; have T0 := hU t0; clear s0 t0
 have S1 := hU s1; have T1 := hU t1; clear s1 t1
 clear hf
 obtain ⟨K0, K1, he⟩ := two_new w #[.int .i64 d.leaves.size, .slice A0 d.leaves.peaks.length c0, .int .i64 d.taken.size, .slice A1 d.taken.peaks.length c1, .int .i64 d.head.number, .int .i64 d.head.size, .string d.head.root, .int .i64 d.head.taken, .string d.head.takenRoot] #[.int .i64 d.leaves.size, .slice B0 d.leaves.peaks.length e0, .int .i64 d.taken.size, .slice B1 d.taken.peaks.length e1, .int .i64 d.head.number, .int .i64 d.head.size, .string d.head.root, .int .i64 d.head.taken, .string d.head.takenRoot] 57 57
 go_enter Tryz.func56, Tryz.ntmps56
 obtain ⟨r0, f0⟩ := K0.rules
 obtain ⟨r1, f1⟩ := K1.rules
 go_wp2_with fail
 obtain ⟨g, hg⟩ : ∃ g, g = w.heap.size := ⟨_, rfl⟩
 rw [← hg] at K0 K1
 rw [← hg]
 clear hg r0 f0 r1 f1
 refine (eqRange_same d.leaves A0 c0 B0 e0 _ (S0.out.ext he) (T0.out.ext he) l_leaves).mono ?_
 rintro e x0 ⟨rfl, hx⟩
 replace K0 := K0.ext hx; replace K1 := K1.ext hx; replace he := he.next hx; clear hx
 obtain ⟨r0, f0⟩ := K0.rules
 obtain ⟨r1, f1⟩ := K1.rules
 go_wp2_with fail
 clear r0 f0 r1 f1
 refine (eqRange_same d.taken A1 c1 B1 e1 _ (S1.out.ext he) (T1.out.ext he) l_taken).mono ?_
 rintro e x1 ⟨rfl, hx⟩
 replace K0 := K0.ext hx; replace K1 := K1.ext hx; replace he := he.next hx; clear hx
 obtain ⟨r0, f0⟩ := K0.rules
 obtain ⟨r1, f1⟩ := K1.rules
 go_wp2_with fail
 clear r0 f0 r1 f1
 refine (eqHead_same d.head _).mono ?_
 rintro e x2 ⟨rfl, hx⟩
 replace K0 := K0.ext hx; replace K1 := K1.ext hx; replace he := he.next hx; clear hx
 obtain ⟨r0, f0⟩ := K0.rules
 obtain ⟨r1, f1⟩ := K1.rules
 go_wp2_with fail
 clear r0 f0 r1 f1
 go_ret
 exact ⟨rfl, he⟩
end Go.Proofs.YtlgdghpnfclgpaaGreat
