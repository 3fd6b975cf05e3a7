/-
  The laws' own copying and comparing functions at Head: walks. Written by program (gen_conv.py). No condition.
  What Range is in memory; the laws' own functions at it: walks. Written by program (gen_nest.py). No condition.
  What Seal is in memory; the laws' own functions at it: walks. Written by program (gen_nest.py). No condition.
-/
import Derived.Test.YtlgdghpnfclgpaaGreatTypes
import Derived.StillTailTactics
import Derived.Test.YtlgdghpnfclgpaaGreatNest
import Derived.Test.YtlgdghpnfclgpaaGreatName
namespace Go.Proofs.YtlgdghpnfclgpaaGreat
set_option linter.unusedSimpArgs false
open Go.RowKit
set_option linter.unusedVariables false
def HeadD.lens (d : HeadD) : List Nat := [d.root.size, d.takenRoot.size]
theorem eqHead_same (d : HeadD) (w : World) :
 Calls Tryz.prog 114 #[.agg #[.int .i64 d.number, .int .i64 d.size, .string d.root, .int .i64 d.taken, .string d.takenRoot], .agg #[.int .i64 d.number, .int .i64 d.size, .string d.root, .int .i64 d.taken, .string d.takenRoot]] w fun e w' => e = .returned (.bool true) ∧ Ext w w' := by
 go_enter Tryz.func114, Tryz.ntmps114
 go_wp2
 go_ret
 exact ⟨rfl, by go_grown⟩
set_option maxHeartbeats 1000000 in
set_option maxRecDepth 100000 in
theorem eqHeadS_same (A A' : Option Addr) (c c' : Nat) (l : List HeadD) (w : World) (hr : ReadsL w w.heap.size HeadD.cells 5 A l) (hr' : ReadsL w w.heap.size HeadD.cells 5 A' l) (hl : l.length ≤ 1048576) :
 Calls Tryz.prog 55 #[.slice A l.length c, .slice A' l.length c'] w fun e w' => e = .returned (.bool true) ∧ Ext w w' := by
 go_enter Tryz.func55, Tryz.ntmps55
 go_wp2
 go_loopw [5] (fun i wr => ∃ (k : Nat), k ≤ l.length ∧ i = .int .i64 k ∧ Ext w wr) (fun i _ => l.length - (intOf i).toNat)
 case atStart => exact ⟨0, Nat.zero_le _, rfl, Below.refl _ _⟩
 case round =>
  obtain ⟨k, hk, rfl, he⟩ := hrel
  by_cases hlt : k < l.length
  · obtain ⟨b, off, rfl, hb, hc⟩ := (hr.below he).at_ (k := k) hlt
    obtain ⟨b', off', rfl, hb', hc'⟩ := (hr'.below he).at_ (k := k) hlt
    obtain ⟨d, hd⟩ : ∃ d, d = l[k] := ⟨_, rfl⟩
    have hdl : l[k]? = some d := by rw [hd]; exact List.getElem?_eq_getElem hlt
    have c0 := hc 0 _ (flat_at _ 5 HeadD.cells_length l k 0 d hdl (by omega))
    have c1 := hc 1 _ (flat_at _ 5 HeadD.cells_length l k 1 d hdl (by omega))
    have c2 := hc 2 _ (flat_at _ 5 HeadD.cells_length l k 2 d hdl (by omega))
    have c3 := hc 3 _ (flat_at _ 5 HeadD.cells_length l k 3 d hdl (by omega))
    have c4 := hc 4 _ (flat_at _ 5 HeadD.cells_length l k 4 d hdl (by omega))
    have b0 := hc' 0 _ (flat_at _ 5 HeadD.cells_length l k 0 d hdl (by omega))
    have b1 := hc' 1 _ (flat_at _ 5 HeadD.cells_length l k 1 d hdl (by omega))
    have b2 := hc' 2 _ (flat_at _ 5 HeadD.cells_length l k 2 d hdl (by omega))
    have b3 := hc' 3 _ (flat_at _ 5 HeadD.cells_length l k 3 d hdl (by omega))
    have b4 := hc' 4 _ (flat_at _ 5 HeadD.cells_length l k 4 d hdl (by omega))
    rw [Nat.add_zero] at c0 b0
    clear hc hc' hd hdl
    go_wp2_with fail
    go_still_tail 8, (by kernel_rfl)
    change wpList _ _ _ _ _ wr.drew
    generalize hw : wr.drew = w2
    have he2 : Ext w w2 := by rw [← hw]; exact he.drew
    clear hw he
    go_wp2_with fail
    refine (eqHead_same d _).mono ?_
    rintro e w1 ⟨rfl, h1⟩
    replace he2 := he2.next h1; clear h1 c0 c1 c2 c3 c4 b0 b1 b2 b3 b4
    go_wp2_with fail
    go_roundw
    case rel => exact ⟨k + 1, by omega, by go_num, he2⟩
    case measure => simp [intOf]; omega
  · go_wp2_with fail
    go_ret
    exact ⟨rfl, he⟩
end Go.Proofs.YtlgdghpnfclgpaaGreat
namespace Go.Proofs.YtlgdghpnfclgpaaGreat
set_option linter.unusedSimpArgs false
open Go.RowKit
set_option linter.unusedVariables false
structure RangeD where
 size : Int
 peaks : List ByteArray
def RangeD.In : Rep RangeD := fun p w cs d => ∃ (A0 : Option Addr) (c0 : Nat), cs = [.int .i64 d.size, .slice A0 d.peaks.length c0] ∧ SlF p sone 1 w A0 d.peaks c0
def RangeD.Ok (d : RangeD) : Prop := (Lit.int .i64 d.size).wf = true ∧ (∀ s ∈ d.peaks, s.size ≤ maxLen)
def RangeD.lens (d : RangeD) : List Nat := (d.peaks.length :: d.peaks.flatMap slens) ++ []
set_option maxRecDepth 100000 in
theorem RangeD.typed {w : World} {n : Nat} {cs : List Value} (h : Typed Tryz.prog w n 37 cs) : ∃ d : RangeD, RangeD.In AnyB w cs d ∧ d.Ok := by
 obtain ⟨hl, m, hf⟩ := typed_struct Tryz.underlying37 h
 have hC : Tryz.prog.cellsOf 37 = 2 := by kernel_rfl
 have hs0 : Tryz.prog.cellsOf 3 = 1 := by kernel_rfl
 have hs1 : Tryz.prog.cellsOf 22 = 1 := by kernel_rfl
 rw [hC] at hl
 match cs, hl with
 | [x0, x1], _ =>
   have f0 := hf _ (List.mem_iff_getElem?.2 ⟨0, rfl⟩)
   simp only [hs0, List.drop_zero, List.take_succ_cons, List.take_zero] at f0
   obtain ⟨a0, e0, w0⟩ := typed_int Tryz.underlying3 f0
   obtain rfl : x0 = _ := by simpa using e0
   have f1 := hf _ (List.mem_iff_getElem?.2 ⟨1, rfl⟩)
   simp only [hs1, List.drop_succ_cons, List.drop_zero, List.take_succ_cons, List.take_zero] at f1
   obtain ⟨A0, c0, a1, e1, s0, w1⟩ := typed_sliceF sone (fun s => s.size ≤ maxLen) 1 Tryz.underlying22 (by kernel_rfl) (by decide) sone_length (fun m es h => string_typed h) f1
   obtain rfl : x1 = _ := by simpa using e1
   exact ⟨⟨a0, a1⟩, ⟨_, _, rfl, s0⟩, w0, w1⟩
set_option maxHeartbeats 2000000 in
set_option maxRecDepth 100000 in
theorem eqRange_same (d : RangeD) (A0 : Option Addr) (c0 : Nat) (B0 : Option Addr) (e0 : Nat) (w : World) (s0 : SlF AnyB sone 1 w A0 d.peaks c0) (t0 : SlF AnyB sone 1 w B0 d.peaks e0) (hf : ∀ n ∈ d.lens, n ≤ 1048576) :
 Calls Tryz.prog 115 #[.agg #[.int .i64 d.size, .slice A0 d.peaks.length c0], .agg #[.int .i64 d.size, .slice B0 d.peaks.length e0]] w fun e w' => e = .returned (.bool true) ∧ Ext w w' := by
 have l_peaks : d.peaks.length ≤ 1048576 := hf _ (by simp [RangeD.lens])
 have S0 := Lib.hid s0; have T0 := Lib.hid t0; clear s0 t0
 clear hf
 obtain ⟨K0, K1, he⟩ := two_new w #[.int .i64 d.size, .slice A0 d.peaks.length c0] #[.int .i64 d.size, .slice B0 d.peaks.length e0] 54 54
 go_enter Tryz.func115, Tryz.ntmps115
 obtain ⟨r0, f0⟩ := K0.rules
 obtain ⟨r1, f1⟩ := K1.rules
 go_wp2_with fail
 obtain ⟨g, hg⟩ : ∃ g, g = w.heap.size := ⟨_, rfl⟩
 rw [← hg] at K0 K1
 rw [← hg]
 clear hg r0 f0 r1 f1
 refine (eqStringS_slf A0 B0 c0 e0 d.peaks _ (S0.out.ext he) (T0.out.ext he) l_peaks).mono ?_
 rintro e x1 ⟨rfl, hx⟩
 replace K0 := K0.ext hx; replace K1 := K1.ext hx; replace he := he.next hx; clear hx
 obtain ⟨r0, f0⟩ := K0.rules
 obtain ⟨r1, f1⟩ := K1.rules
 go_wp2_with fail
 clear r0 f0 r1 f1
 go_ret
 exact ⟨rfl, he⟩
end Go.Proofs.YtlgdghpnfclgpaaGreat
namespace Go.Proofs.YtlgdghpnfclgpaaGreat
set_option linter.unusedSimpArgs false
open Go.RowKit
set_option linter.unusedVariables false
structure SealD where
 leaves : RangeD
 taken : RangeD
 head : HeadD
def SealD.In : Rep SealD := fun p w cs d => ∃ (A0 : Option Addr) (c0 : Nat) (A1 : Option Addr) (c1 : Nat), cs = [.int .i64 d.leaves.size, .slice A0 d.leaves.peaks.length c0, .int .i64 d.taken.size, .slice A1 d.taken.peaks.length c1, .int .i64 d.head.number, .int .i64 d.head.size, .string d.head.root, .int .i64 d.head.taken, .string d.head.takenRoot] ∧ SlF p sone 1 w A0 d.leaves.peaks c0 ∧ SlF p sone 1 w A1 d.taken.peaks c1
def SealD.Ok (d : SealD) : Prop := d.leaves.Ok ∧ d.taken.Ok ∧ d.head.Ok
def SealD.lens (d : SealD) : List Nat := d.leaves.lens ++ (d.taken.lens ++ (d.head.lens ++ []))
set_option maxRecDepth 100000 in
theorem SealD.typed {w : World} {n : Nat} {cs : List Value} (h : Typed Tryz.prog w n 41 cs) : ∃ d : SealD, SealD.In AnyB w cs d ∧ d.Ok := by
 obtain ⟨hl, m, hf⟩ := typed_struct Tryz.underlying41 h
 have hC : Tryz.prog.cellsOf 41 = 9 := by kernel_rfl
 have hs0 : Tryz.prog.cellsOf 37 = 2 := by kernel_rfl
 have hs1 : Tryz.prog.cellsOf 39 = 5 := by kernel_rfl
 rw [hC] at hl
 match cs, hl with
 | [x0, x1, x2, x3, x4, x5, x6, x7, x8], _ =>
   have f0 := hf _ (List.mem_iff_getElem?.2 ⟨0, rfl⟩)
   simp only [hs0, List.drop_zero, List.take_succ_cons, List.take_zero] at f0
   obtain ⟨a0, i0, w0⟩ := RangeD.typed f0
   obtain ⟨A0, c0, e0, s0⟩ := i0
   simp only [List.cons.injEq, and_true] at e0
   obtain ⟨rfl, rfl⟩ := e0
   have f1 := hf _ (List.mem_iff_getElem?.2 ⟨1, rfl⟩)
   simp only [hs0, List.drop_succ_cons, List.drop_zero, List.take_succ_cons, List.take_zero] at f1
   obtain ⟨a1, i1, w1⟩ := RangeD.typed f1
   obtain ⟨A1, c1, e1, s1⟩ := i1
   simp only [List.cons.injEq, and_true] at e1
   obtain ⟨rfl, rfl⟩ := e1
   have f2 := hf _ (List.mem_iff_getElem?.2 ⟨2, rfl⟩)
   simp only [hs1, List.drop_succ_cons, List.drop_zero, List.take_succ_cons, List.take_zero] at f2
   obtain ⟨a2, e2, w2⟩ := HeadD.typed f2
   simp only [HeadD.cells, List.cons.injEq, and_true] at e2
   obtain ⟨rfl, rfl, rfl, rfl, rfl⟩ := e2
   exact ⟨⟨a0, a1, a2⟩, ⟨_, _, _, _, rfl, s0, s1⟩, w0, w1, w2⟩
set_option maxHeartbeats 2000000 in
set_option maxRecDepth 100000 in
theorem eqSeal_same (d : SealD) (A0 : Option Addr) (c0 : Nat) (A1 : Option Addr) (c1 : Nat) (B0 : Option Addr) (e0 : Nat) (B1 : Option Addr) (e1 : Nat) (w : World) (s0 : SlF AnyB sone 1 w A0 d.leaves.peaks c0) (s1 : SlF AnyB sone 1 w A1 d.taken.peaks c1) (t0 : SlF AnyB sone 1 w B0 d.leaves.peaks e0) (t1 : SlF AnyB sone 1 w B1 d.taken.peaks e1) (hf : ∀ n ∈ d.lens, n ≤ 1048576) :
 Calls Tryz.prog 56 #[.agg #[.int .i64 d.leaves.size, .slice A0 d.leaves.peaks.length c0, .int .i64 d.taken.size, .slice A1 d.taken.peaks.length c1, .int .i64 d.head.number, .int .i64 d.head.size, .string d.head.root, .int .i64 d.head.taken, .string d.head.takenRoot], .agg #[.int .i64 d.leaves.size, .slice B0 d.leaves.peaks.length e0, .int .i64 d.taken.size, .slice B1 d.taken.peaks.length e1, .int .i64 d.head.number, .int .i64 d.head.size, .string d.head.root, .int .i64 d.head.taken, .string d.head.takenRoot]] w fun e w' => e = .returned (.bool true) ∧ Ext w w' := by
 have l_leaves : ∀ n ∈ d.leaves.lens, n ≤ 1048576 := fun n hn => hf n (by simp only [SealD.lens, List.mem_append]; simp [hn])
 have l_taken : ∀ n ∈ d.taken.lens, n ≤ 1048576 := fun n hn => hf n (by simp only [SealD.lens, List.mem_append]; simp [hn])
 have S0 := Lib.hid s0; have T0 := Lib.hid t0; clear s0 t0
 have S1 := Lib.hid s1; have T1 := Lib.hid t1; clear s1 t1
 clear hf
 obtain ⟨K0, K1, he⟩ := two_new w #[.int .i64 d.leaves.size, .slice A0 d.leaves.peaks.length c0, .int .i64 d.taken.size, .slice A1 d.taken.peaks.length c1, .int .i64 d.head.number, .int .i64 d.head.size, .string d.head.root, .int .i64 d.head.taken, .string d.head.takenRoot] #[.int .i64 d.leaves.size, .slice B0 d.leaves.peaks.length e0, .int .i64 d.taken.size, .slice B1 d.taken.peaks.length e1, .int .i64 d.head.number, .int .i64 d.head.size, .string d.head.root, .int .i64 d.head.taken, .string d.head.takenRoot] 57 57
 go_enter Tryz.func56, Tryz.ntmps56
 obtain ⟨r0, f0⟩ := K0.rules
 obtain ⟨r1, f1⟩ := K1.rules
 go_wp2_with fail
 obtain ⟨g, hg⟩ : ∃ g, g = w.heap.size := ⟨_, rfl⟩
 rw [← hg] at K0 K1
 rw [← hg]
 clear hg r0 f0 r1 f1
 refine (eqRange_same d.leaves A0 c0 B0 e0 _ (S0.out.ext he) (T0.out.ext he) l_leaves).mono ?_
 rintro e x0 ⟨rfl, hx⟩
 replace K0 := K0.ext hx; replace K1 := K1.ext hx; replace he := he.next hx; clear hx
 obtain ⟨r0, f0⟩ := K0.rules
 obtain ⟨r1, f1⟩ := K1.rules
 go_wp2_with fail
 clear r0 f0 r1 f1
 refine (eqRange_same d.taken A1 c1 B1 e1 _ (S1.out.ext he) (T1.out.ext he) l_taken).mono ?_
 rintro e x1 ⟨rfl, hx⟩
 replace K0 := K0.ext hx; replace K1 := K1.ext hx; replace he := he.next hx; clear hx
 obtain ⟨r0, f0⟩ := K0.rules
 obtain ⟨r1, f1⟩ := K1.rules
 go_wp2_with fail
 clear r0 f0 r1 f1
 refine (eqHead_same d.head _).mono ?_
 rintro e x2 ⟨rfl, hx⟩
 replace K0 := K0.ext hx; replace K1 := K1.ext hx; replace he := he.next hx; clear hx
 obtain ⟨r0, f0⟩ := K0.rules
 obtain ⟨r1, f1⟩ := K1.rules
 go_wp2_with fail
 clear r0 f0 r1 f1
 go_ret
 exact ⟨rfl, he⟩
end Go.Proofs.YtlgdghpnfclgpaaGreat
