/-
  What Seal is in memory; the laws' own functions at it: walks. Written by program (gen_nest.py). No condition.
-/
import Derived.Test.YtkcjhfidgnbdiaaGreatNest
import Derived.Test.YtkcjhfidgnbdiaaGreatNRange
import Derived.Test.YtkcjhfidgnbdiaaGreatConvHead
import Derived.Test.YtkcjhfidgnbdiaaGreatNamesOk
import Derived.StillTailTactics
namespace Go.Proofs.YtkcjhfidgnbdiaaGreat
set_option linter.unusedSimpArgs false
open Go.RowKit
set_option linter.unusedVariables false

structure SealD where
  leaves : RangeD
  taken : RangeD
  head : HeadD
def SealD.In : Rep SealD := fun p w cs d => ∃ (A0 : Option Addr) (c0 : Nat) (A1 : Option Addr) (c1 : Nat), cs = [.int .i64 d.leaves.size, .slice A0 d.leaves.peaks.length c0, .int .i64 d.taken.size, .slice A1 d.taken.peaks.length c1, .int .i64 d.head.number, .int .i64 d.head.size, .string d.head.root, .int .i64 d.head.taken, .string d.head.takenRoot] ∧ SlF p sone 1 w A0 d.leaves.peaks c0 ∧ SlF p sone 1 w A1 d.taken.peaks c1
theorem SealD.steady : Steady SealD.In := ⟨fun h k => by obtain ⟨A0, c0, A1, c1, rfl, s0, s1⟩ := h; exact ⟨_, _, _, _, rfl, s0.keep k, s1.keep k⟩, fun h k => by obtain ⟨A0, c0, A1, c1, rfl, s0, s1⟩ := h; exact ⟨_, _, _, _, rfl, s0.mono k, s1.mono k⟩⟩
theorem SealD.in_len {p : Nat → Prop} {w : World} {cs : List Value} {d : SealD} (h : SealD.In p w cs d) : cs.length = 9 := by obtain ⟨A0, c0, A1, c1, rfl, _⟩ := h; rfl
def SealD.Ok (d : SealD) : Prop := d.leaves.Ok ∧ d.taken.Ok ∧ d.head.Ok
def SealD.lens (d : SealD) : List Nat := d.leaves.lens ++ (d.taken.lens ++ (d.head.lens ++ []))
set_option maxRecDepth 100000 in
theorem SealD.typed {w : World} {n : Nat} {cs : List Value} (h : Typed Tryz.prog w n 61 cs) : ∃ d : SealD, SealD.In AnyB w cs d ∧ d.Ok := by
  obtain ⟨hl, m, hf⟩ := typed_struct Tryz.underlying61 h
  have hC : Tryz.prog.cellsOf 61 = 9 := by kernel_rfl
  have hs0 : Tryz.prog.cellsOf 58 = 2 := by kernel_rfl
  have hs1 : Tryz.prog.cellsOf 59 = 5 := by kernel_rfl
  rw [hC] at hl
  match cs, hl with
  | [x0, x1, x2, x3, x4, x5, x6, x7, x8], _ =>
    have f0 := hf _ (List.mem_iff_getElem?.2 ⟨0, rfl⟩)
    simp only [hs0, List.drop_zero, List.take_succ_cons, List.take_zero] at f0
    obtain ⟨a0, i0, w0⟩ := RangeD.typed f0
    obtain ⟨A0, c0, e0, s0⟩ := i0
    simp only [List.cons.injEq, and_true] at e0
    obtain ⟨rfl, rfl⟩ := e0
    have f1 := hf _ (List.mem_iff_getElem?.2 ⟨1, rfl⟩)
    simp only [hs0, List.drop_succ_cons, List.drop_zero, List.take_succ_cons, List.take_zero] at f1
    obtain ⟨a1, i1, w1⟩ := RangeD.typed f1
    obtain ⟨A1, c1, e1, s1⟩ := i1
    simp only [List.cons.injEq, and_true] at e1
    obtain ⟨rfl, rfl⟩ := e1
    have f2 := hf _ (List.mem_iff_getElem?.2 ⟨2, rfl⟩)
    simp only [hs1, List.drop_succ_cons, List.drop_zero, List.take_succ_cons, List.take_zero] at f2
    obtain ⟨a2, e2, w2⟩ := HeadD.typed f2
    simp only [HeadD.cells, List.cons.injEq, and_true] at e2
    obtain ⟨rfl, rfl, rfl, rfl, rfl⟩ := e2
    exact ⟨⟨a0, a1, a2⟩, ⟨_, _, _, _, rfl, s0, s1⟩, w0, w1, w2⟩
set_option maxHeartbeats 2000000 in
set_option maxRecDepth 100000 in
theorem szSeal_any (d : SealD) (A0 : Option Addr) (c0 : Nat) (A1 : Option Addr) (c1 : Nat) (left : Int) (w : World) (hok : d.Ok) (s0 : SlF AnyB sone 1 w A0 d.leaves.peaks c0) (s1 : SlF AnyB sone 1 w A1 d.taken.peaks c1) (h0 : 0 ≤ left) (h1 : left ≤ 1048576) :
    Calls Tryz.prog 69 #[.agg #[.int .i64 d.leaves.size, .slice A0 d.leaves.peaks.length c0, .int .i64 d.taken.size, .slice A1 d.taken.peaks.length c1, .int .i64 d.head.number, .int .i64 d.head.size, .string d.head.root, .int .i64 d.head.taken, .string d.head.takenRoot], .int .i64 left] w fun e w' => e = .returned (.int .i64 (szL d.lens left)) ∧ Ext w w' := by
  obtain ⟨k_leaves, k_taken, k_head⟩ := hok
  have S0 := Lib.hid s0; clear s0
  have S1 := Lib.hid s1; clear s1
  have K_leaves := Lib.hid k_leaves; clear k_leaves
  have K_taken := Lib.hid k_taken; clear k_taken
  have K_head := Lib.hid k_head; clear k_head
  have K0 := Lib.hid (Blk.new w 61 #[.int .i64 d.leaves.size, .slice A0 d.leaves.peaks.length c0, .int .i64 d.taken.size, .slice A1 d.taken.peaks.length c1, .int .i64 d.head.number, .int .i64 d.head.size, .string d.head.root, .int .i64 d.head.taken, .string d.head.takenRoot])
  have He := Lib.hid (Ext.new (Below.refl w.heap.size w) (.cells #[.int .i64 d.leaves.size, .slice A0 d.leaves.peaks.length c0, .int .i64 d.taken.size, .slice A1 d.taken.peaks.length c1, .int .i64 d.head.number, .int .i64 d.head.size, .string d.head.root, .int .i64 d.head.taken, .string d.head.takenRoot] 61))
  obtain ⟨fin, hfin⟩ : ∃ fin, fin = szL d.lens left := ⟨_, rfl⟩
  have F : Hid (szL (d.leaves.lens ++ (d.taken.lens ++ (d.head.lens ++ []))) left = fin) := Lib.hid hfin.symm
  rw [← hfin]
  clear hfin
  go_enter Tryz.func69, Tryz.ntmps69
  go_wp2_with fail
  refine (szRange_any d.leaves A0 c0 left _ K_leaves.out (S0.out.ext He.out) h0 h1).mono ?_
  rintro e w1 ⟨rfl, hx⟩
  have K1 := K0.out.ext hx; have he := He.out.next hx; clear hx K0 He
  obtain ⟨r0, m0⟩ := K1.rules
  have hp := szL_pos d.leaves.lens left h0
  have hqq := szL_le d.leaves.lens left
  by_cases n0 : szL d.leaves.lens left < 0
  · have E := Lib.hid (show (-1 : Int) = fin by rw [← F.out, szL_append _ _ _ h0, if_pos n0])
    have ev : szL d.leaves.lens left = -1 := by omega
    clear hp hqq F
    go_wp2_with fail
    go_ret
    exact ⟨ret_int E.out, he⟩
  have F2 : Hid (szL (d.taken.lens ++ (d.head.lens ++ [])) (szL d.leaves.lens left) = fin) := Lib.hid (by rw [← F.out, szL_append _ _ _ h0, if_neg n0])
  clear F
  have u0 : 0 ≤ szL d.leaves.lens left := by omega
  have v0 : szL d.leaves.lens left ≤ 1048576 := by omega
  clear hp hqq
  generalize szL d.leaves.lens left = q0 at *
  have F := F2
  clear F2
  go_wp2_with fail
  refine (szRange_any d.taken A1 c1 q0 _ K_taken.out (S1.out.ext he) u0 v0).mono ?_
  rintro e w2 ⟨rfl, hx⟩
  replace K1 := K1.ext hx; replace he := he.next hx; clear hx r0 m0
  obtain ⟨r0, m0⟩ := K1.rules
  have hp := szL_pos d.taken.lens q0 u0
  have hqq := szL_le d.taken.lens q0
  by_cases n1 : szL d.taken.lens q0 < 0
  · have E := Lib.hid (show (-1 : Int) = fin by rw [← F.out, szL_append _ _ _ u0, if_pos n1])
    have ev : szL d.taken.lens q0 = -1 := by omega
    clear hp hqq F
    go_wp2_with fail
    go_ret
    exact ⟨ret_int E.out, he⟩
  have F2 : Hid (szL (d.head.lens ++ []) (szL d.taken.lens q0) = fin) := Lib.hid (by rw [← F.out, szL_append _ _ _ u0, if_neg n1])
  clear F
  have u1 : 0 ≤ szL d.taken.lens q0 := by omega
  have v1 : szL d.taken.lens q0 ≤ 1048576 := by omega
  clear hp hqq
  generalize szL d.taken.lens q0 = q1 at *
  have F := F2
  clear F2
  go_wp2_with fail
  refine (szHead_any d.head q1 _ K_head.out u1 v1).mono ?_
  rintro e w3 ⟨rfl, hx⟩
  replace K1 := K1.ext hx; replace he := he.next hx; clear hx r0 m0
  obtain ⟨r0, m0⟩ := K1.rules
  have hp := szL_pos d.head.lens q1 u1
  have hqq := szL_le d.head.lens q1
  by_cases n2 : szL d.head.lens q1 < 0
  · have E := Lib.hid (show (-1 : Int) = fin by rw [← F.out, szL_append _ _ _ u1, if_pos n2])
    have ev : szL d.head.lens q1 = -1 := by omega
    clear hp hqq F
    go_wp2_with fail
    go_ret
    exact ⟨ret_int E.out, he⟩
  have F2 : Hid (szL ([]) (szL d.head.lens q1) = fin) := Lib.hid (by rw [← F.out, szL_append _ _ _ u1, if_neg n2])
  clear F
  have u2 : 0 ≤ szL d.head.lens q1 := by omega
  have v2 : szL d.head.lens q1 ≤ 1048576 := by omega
  clear hp hqq
  generalize szL d.head.lens q1 = q2 at *
  have F := F2
  clear F2
  go_wp2_with fail
  go_ret
  exact ⟨ret_int (show q2 = fin from F.out), he⟩
set_option maxHeartbeats 4000000 in
set_option maxRecDepth 100000 in
theorem toSeal_any (d : SealD) (A0 : Option Addr) (c0 : Nat) (A1 : Option Addr) (c1 : Nat) (w : World) (s0 : SlF AnyB sone 1 w A0 d.leaves.peaks c0) (s1 : SlF AnyB sone 1 w A1 d.taken.peaks c1) (hf : ∀ n ∈ d.lens, n ≤ 1048576) :
    Calls Tryz.prog 75 #[.agg #[.int .i64 d.leaves.size, .slice A0 d.leaves.peaks.length c0, .int .i64 d.taken.size, .slice A1 d.taken.peaks.length c1, .int .i64 d.head.number, .int .i64 d.head.size, .string d.head.root, .int .i64 d.head.taken, .string d.head.takenRoot]] w fun e w' => ∃ cs, e = .returned (.agg cs.toArray) ∧ SealD.In (FromB w.heap.size) w' cs d ∧ Ext w w' := by
  have l_leaves : ∀ n ∈ d.leaves.lens, n ≤ 1048576 := fun n hn => hf n (by simp only [SealD.lens, List.mem_append]; simp [hn])
  have l_taken : ∀ n ∈ d.taken.lens, n ≤ 1048576 := fun n hn => hf n (by simp only [SealD.lens, List.mem_append]; simp [hn])
  have S0 := Lib.hid s0; clear s0
  have S1 := Lib.hid s1; clear s1
  clear hf
  go_enter Tryz.func75, Tryz.ntmps75
  go_wp2_with fail
  have HE : Ext w (((w.alloc (.cells #[.int .i64 d.leaves.size, .slice A0 d.leaves.peaks.length c0, .int .i64 d.taken.size, .slice A1 d.taken.peaks.length c1, .int .i64 d.head.number, .int .i64 d.head.size, .string d.head.root, .int .i64 d.head.taken, .string d.head.takenRoot] 61)).alloc (.cells #[.int .i64 0, .slice none 0 0, .int .i64 0, .slice none 0 0, .int .i64 0, .int .i64 0, .string ⟨#[]⟩, .int .i64 0, .string ⟨#[]⟩] 35)).alloc (.cells #[.int .i64 0, .slice none 0 0, .int .i64 0, .slice none 0 0, .int .i64 0, .int .i64 0, .string ⟨#[]⟩, .int .i64 0, .string ⟨#[]⟩] 35)) := Ext.new (Ext.new (Ext.new (Below.refl _ w) _) _) _
  refine (toRange_any d.leaves A0 c0 _ (S0.out.ext HE) l_leaves).mono ?_
  rintro e x0 ⟨cs, rfl, ⟨G0, D0, rfl, t0⟩, hx⟩
  have B0 := (((Blk.new _ _ _).alloc _).alloc _).ext hx
  have B1 := ((Blk.new _ _ _).alloc _).ext hx
  have B2 := (Blk.new _ _ _).ext hx
  have he := HE.next hx
  have hgs : w.heap.size + 1 + 1 + 1 ≤ w.heap.size + 1 + 1 + 1 := Nat.le_refl _
  simp only [World.size_alloc] at B1 B2
  have T0 : SlF (FromB (w.heap.size + 1 + 1 + 1)) sone 1 x0 G0 d.leaves.peaks D0 := t0.mono (fun b hb => by unfold FromB at *; simp only [World.size_alloc] at hb; omega)
  clear hx HE hgs
  obtain ⟨r0, f0⟩ := B0.rules
  obtain ⟨r2, f2⟩ := B2.rules
  go_upto_region 3 with fail
  have he_ := ext_setCells (W := w) (g := (w.heap.size + 1 + 1)) (by omega) [.int .i64 d.leaves.size, .slice G0 d.leaves.peaks.length D0] 0 x0 he
  have C2 := B2.put 0 [.int .i64 d.leaves.size, .slice G0 d.leaves.peaks.length D0] #[.int .i64 d.leaves.size, .slice G0 d.leaves.peaks.length D0, .int .i64 0, .slice none 0 0, .int .i64 0, .int .i64 0, .string ⟨#[]⟩, .int .i64 0, .string ⟨#[]⟩] (by simp) rfl
  have C1 := B1.farCells (g' := (w.heap.size + 1 + 1)) (by omega) [.int .i64 d.leaves.size, .slice G0 d.leaves.peaks.length D0] 0
  have C0 := B0.farCells (g' := (w.heap.size + 1 + 1)) (by omega) [.int .i64 d.leaves.size, .slice G0 d.leaves.peaks.length D0] 0
  replace T0 := T0.keep (Keep.setCells (g := (w.heap.size + 1 + 1)) (by unfold FromB; omega) [.int .i64 d.leaves.size, .slice G0 d.leaves.peaks.length D0] 0 x0)
  clear r0 f0 r2 f2 B0 B1 B2 he
  change Code.wp _ _ _ _ (x0.setCells (w.heap.size + 1 + 1) 0 [.int .i64 d.leaves.size, .slice G0 d.leaves.peaks.length D0])
  generalize x0.setCells (w.heap.size + 1 + 1) 0 [.int .i64 d.leaves.size, .slice G0 d.leaves.peaks.length D0] = y0 at *
  have B0 := C0; have B1 := C1; have B2 := C2; have he := he_
  clear C0 C1 C2 he_
  obtain ⟨r0, f0⟩ := B0.rules
  obtain ⟨r2, f2⟩ := B2.rules
  go_wp2_with fail
  refine (toRange_any d.taken A1 c1 _ (S1.out.ext he) l_taken).mono ?_
  rintro e x1 ⟨cs, rfl, ⟨G1, D1, rfl, t1⟩, hx⟩
  have hsz : w.heap.size + 1 + 1 + 1 ≤ y0.heap.size := B2.lt
  replace B0 := B0.ext hx; replace B1 := B1.ext hx; replace B2 := B2.ext hx; replace he := he.next hx
  replace T0 := (T0.ext hx)
  have T1 : SlF (FromB (w.heap.size + 1 + 1 + 1)) sone 1 x1 G1 d.taken.peaks D1 := t1.mono (fun b hb => by unfold FromB at *; omega)
  clear hx hsz
  clear r0 f0 r2 f2
  obtain ⟨r0, f0⟩ := B0.rules
  obtain ⟨r2, f2⟩ := B2.rules
  go_upto_region 4 with fail
  have he_ := ext_setCells (W := w) (g := (w.heap.size + 1 + 1)) (by omega) [.int .i64 d.taken.size, .slice G1 d.taken.peaks.length D1] 2 x1 he
  have C2 := B2.put 2 [.int .i64 d.taken.size, .slice G1 d.taken.peaks.length D1] #[.int .i64 d.leaves.size, .slice G0 d.leaves.peaks.length D0, .int .i64 d.taken.size, .slice G1 d.taken.peaks.length D1, .int .i64 0, .int .i64 0, .string ⟨#[]⟩, .int .i64 0, .string ⟨#[]⟩] (by simp) rfl
  have C1 := B1.farCells (g' := (w.heap.size + 1 + 1)) (by omega) [.int .i64 d.taken.size, .slice G1 d.taken.peaks.length D1] 2
  have C0 := B0.farCells (g' := (w.heap.size + 1 + 1)) (by omega) [.int .i64 d.taken.size, .slice G1 d.taken.peaks.length D1] 2
  replace T0 := T0.keep (Keep.setCells (g := (w.heap.size + 1 + 1)) (by unfold FromB; omega) [.int .i64 d.taken.size, .slice G1 d.taken.peaks.length D1] 2 x1)
  replace T1 := T1.keep (Keep.setCells (g := (w.heap.size + 1 + 1)) (by unfold FromB; omega) [.int .i64 d.taken.size, .slice G1 d.taken.peaks.length D1] 2 x1)
  clear r0 f0 r2 f2 B0 B1 B2 he
  change Code.wp _ _ _ _ (x1.setCells (w.heap.size + 1 + 1) 2 [.int .i64 d.taken.size, .slice G1 d.taken.peaks.length D1])
  generalize x1.setCells (w.heap.size + 1 + 1) 2 [.int .i64 d.taken.size, .slice G1 d.taken.peaks.length D1] = y1 at *
  have B0 := C0; have B1 := C1; have B2 := C2; have he := he_
  clear C0 C1 C2 he_
  obtain ⟨r0, f0⟩ := B0.rules
  obtain ⟨r2, f2⟩ := B2.rules
  go_wp2_with fail
  refine (toHead_any d.head _).mono ?_
  rintro e x2 ⟨rfl, hx⟩
  have hsz : w.heap.size + 1 + 1 + 1 ≤ y1.heap.size := B2.lt
  replace B0 := B0.ext hx; replace B1 := B1.ext hx; replace B2 := B2.ext hx; replace he := he.next hx
  replace T0 := (T0.ext hx)
  replace T1 := (T1.ext hx)
  clear hx hsz
  clear r0 f0 r2 f2
  obtain ⟨r0, f0⟩ := B0.rules
  obtain ⟨r2, f2⟩ := B2.rules
  go_upto_region 5 with fail
  have he_ := ext_setCells (W := w) (g := (w.heap.size + 1 + 1)) (by omega) [.int .i64 d.head.number, .int .i64 d.head.size, .string d.head.root, .int .i64 d.head.taken, .string d.head.takenRoot] 4 x2 he
  have C2 := B2.put 4 [.int .i64 d.head.number, .int .i64 d.head.size, .string d.head.root, .int .i64 d.head.taken, .string d.head.takenRoot] #[.int .i64 d.leaves.size, .slice G0 d.leaves.peaks.length D0, .int .i64 d.taken.size, .slice G1 d.taken.peaks.length D1, .int .i64 d.head.number, .int .i64 d.head.size, .string d.head.root, .int .i64 d.head.taken, .string d.head.takenRoot] (by simp) rfl
  have C1 := B1.farCells (g' := (w.heap.size + 1 + 1)) (by omega) [.int .i64 d.head.number, .int .i64 d.head.size, .string d.head.root, .int .i64 d.head.taken, .string d.head.takenRoot] 4
  have C0 := B0.farCells (g' := (w.heap.size + 1 + 1)) (by omega) [.int .i64 d.head.number, .int .i64 d.head.size, .string d.head.root, .int .i64 d.head.taken, .string d.head.takenRoot] 4
  replace T0 := T0.keep (Keep.setCells (g := (w.heap.size + 1 + 1)) (by unfold FromB; omega) [.int .i64 d.head.number, .int .i64 d.head.size, .string d.head.root, .int .i64 d.head.taken, .string d.head.takenRoot] 4 x2)
  replace T1 := T1.keep (Keep.setCells (g := (w.heap.size + 1 + 1)) (by unfold FromB; omega) [.int .i64 d.head.number, .int .i64 d.head.size, .string d.head.root, .int .i64 d.head.taken, .string d.head.takenRoot] 4 x2)
  clear r0 f0 r2 f2 B0 B1 B2 he
  change Code.wp _ _ _ _ (x2.setCells (w.heap.size + 1 + 1) 4 [.int .i64 d.head.number, .int .i64 d.head.size, .string d.head.root, .int .i64 d.head.taken, .string d.head.takenRoot])
  generalize x2.setCells (w.heap.size + 1 + 1) 4 [.int .i64 d.head.number, .int .i64 d.head.size, .string d.head.root, .int .i64 d.head.taken, .string d.head.takenRoot] = y2 at *
  have B0 := C0; have B1 := C1; have B2 := C2; have he := he_
  clear C0 C1 C2 he_
  obtain ⟨r0, f0⟩ := B0.rules
  obtain ⟨r2, f2⟩ := B2.rules
  have ld := Lib.hid (B2.range)
  have st := Lib.hid (B1.there 0 9 (by decide))
  have O1 : Hid ((#[.int .i64 d.leaves.size, .slice G0 d.leaves.peaks.length D0, .int .i64 d.taken.size, .slice G1 d.taken.peaks.length D1, .int .i64 d.head.number, .int .i64 d.head.size, .string d.head.root, .int .i64 d.head.taken, .string d.head.takenRoot] : Array Value).all (·.oneCell') = true) := Lib.hid (all_oneCell_toArray (by simp [Value.oneCell']))
  clear r0 f0 r2 f2
  have he_ := ext_setCells (W := w) (g := w.heap.size + 1) (by omega) [.int .i64 d.leaves.size, .slice G0 d.leaves.peaks.length D0, .int .i64 d.taken.size, .slice G1 d.taken.peaks.length D1, .int .i64 d.head.number, .int .i64 d.head.size, .string d.head.root, .int .i64 d.head.taken, .string d.head.takenRoot] 0 y2 he
  have E1 := B1.put 0 [.int .i64 d.leaves.size, .slice G0 d.leaves.peaks.length D0, .int .i64 d.taken.size, .slice G1 d.taken.peaks.length D1, .int .i64 d.head.number, .int .i64 d.head.size, .string d.head.root, .int .i64 d.head.taken, .string d.head.takenRoot] #[.int .i64 d.leaves.size, .slice G0 d.leaves.peaks.length D0, .int .i64 d.taken.size, .slice G1 d.taken.peaks.length D1, .int .i64 d.head.number, .int .i64 d.head.size, .string d.head.root, .int .i64 d.head.taken, .string d.head.takenRoot] (by simp) rfl
  replace T0 := T0.keep (Keep.setCells (g := w.heap.size + 1) (by unfold FromB; omega) [.int .i64 d.leaves.size, .slice G0 d.leaves.peaks.length D0, .int .i64 d.taken.size, .slice G1 d.taken.peaks.length D1, .int .i64 d.head.number, .int .i64 d.head.size, .string d.head.root, .int .i64 d.head.taken, .string d.head.takenRoot] 0 y2)
  replace T1 := T1.keep (Keep.setCells (g := w.heap.size + 1) (by unfold FromB; omega) [.int .i64 d.leaves.size, .slice G0 d.leaves.peaks.length D0, .int .i64 d.taken.size, .slice G1 d.taken.peaks.length D1, .int .i64 d.head.number, .int .i64 d.head.size, .string d.head.root, .int .i64 d.head.taken, .string d.head.takenRoot] 0 y2)
  clear B0 B1 B2 he
  go_wp2_with (first | (refine wpList_load_mid rfl 35 _ rfl (w.heap.size + 1 + 1) 0 rfl [.int .i64 d.leaves.size, .slice G0 d.leaves.peaks.length D0, .int .i64 d.taken.size, .slice G1 d.taken.peaks.length D1, .int .i64 d.head.number, .int .i64 d.head.size, .string d.head.root, .int .i64 d.head.taken, .string d.head.takenRoot] _ ld.out Tryz.underlying35 rfl (by kernel_rfl) ?_) | (refine wpList_store_mid rfl 35 _ _ rfl (w.heap.size + 1) 0 #[.int .i64 d.leaves.size, .slice G0 d.leaves.peaks.length D0, .int .i64 d.taken.size, .slice G1 d.taken.peaks.length D1, .int .i64 d.head.number, .int .i64 d.head.size, .string d.head.root, .int .i64 d.head.taken, .string d.head.takenRoot] rfl rfl st.out (by kernel_rfl) O1.out ?_; change wpList _ _ _ _ _ (y2.setCells (w.heap.size + 1) 0 [.int .i64 d.leaves.size, .slice G0 d.leaves.peaks.length D0, .int .i64 d.taken.size, .slice G1 d.taken.peaks.length D1, .int .i64 d.head.number, .int .i64 d.head.size, .string d.head.root, .int .i64 d.head.taken, .string d.head.takenRoot]); clear ld st O1; generalize y2.setCells (w.heap.size + 1) 0 [.int .i64 d.leaves.size, .slice G0 d.leaves.peaks.length D0, .int .i64 d.taken.size, .slice G1 d.taken.peaks.length D1, .int .i64 d.head.number, .int .i64 d.head.size, .string d.head.root, .int .i64 d.head.taken, .string d.head.takenRoot] = z at *))
  exact ret_row rfl rfl E1 Tryz.underlying35 rfl (by kernel_rfl) rfl ⟨[.int .i64 d.leaves.size, .slice G0 d.leaves.peaks.length D0, .int .i64 d.taken.size, .slice G1 d.taken.peaks.length D1, .int .i64 d.head.number, .int .i64 d.head.size, .string d.head.root, .int .i64 d.head.taken, .string d.head.takenRoot], rfl, ⟨_, _, _, _, rfl, T0.mono (fun b hb => by unfold FromB at *; omega), T1.mono (fun b hb => by unfold FromB at *; omega)⟩, he_⟩
set_option maxHeartbeats 2000000 in
set_option maxRecDepth 100000 in
theorem eqSeal_same (d : SealD) (A0 : Option Addr) (c0 : Nat) (A1 : Option Addr) (c1 : Nat) (B0 : Option Addr) (e0 : Nat) (B1 : Option Addr) (e1 : Nat) (w : World) (s0 : SlF AnyB sone 1 w A0 d.leaves.peaks c0) (s1 : SlF AnyB sone 1 w A1 d.taken.peaks c1) (t0 : SlF AnyB sone 1 w B0 d.leaves.peaks e0) (t1 : SlF AnyB sone 1 w B1 d.taken.peaks e1) (hf : ∀ n ∈ d.lens, n ≤ 1048576) :
    Calls Tryz.prog 81 #[.agg #[.int .i64 d.leaves.size, .slice A0 d.leaves.peaks.length c0, .int .i64 d.taken.size, .slice A1 d.taken.peaks.length c1, .int .i64 d.head.number, .int .i64 d.head.size, .string d.head.root, .int .i64 d.head.taken, .string d.head.takenRoot], .agg #[.int .i64 d.leaves.size, .slice B0 d.leaves.peaks.length e0, .int .i64 d.taken.size, .slice B1 d.taken.peaks.length e1, .int .i64 d.head.number, .int .i64 d.head.size, .string d.head.root, .int .i64 d.head.taken, .string d.head.takenRoot]] w fun e w' => e = .returned (.bool true) ∧ Ext w w' := by
  have l_leaves : ∀ n ∈ d.leaves.lens, n ≤ 1048576 := fun n hn => hf n (by simp only [SealD.lens, List.mem_append]; simp [hn])
  have l_taken : ∀ n ∈ d.taken.lens, n ≤ 1048576 := fun n hn => hf n (by simp only [SealD.lens, List.mem_append]; simp [hn])
  have S0 := Lib.hid s0; have T0 := Lib.hid t0; clear s0 t0
  have S1 := Lib.hid s1; have T1 := Lib.hid t1; clear s1 t1
  clear hf
  obtain ⟨K0, K1, he⟩ := two_new w #[.int .i64 d.leaves.size, .slice A0 d.leaves.peaks.length c0, .int .i64 d.taken.size, .slice A1 d.taken.peaks.length c1, .int .i64 d.head.number, .int .i64 d.head.size, .string d.head.root, .int .i64 d.head.taken, .string d.head.takenRoot] #[.int .i64 d.leaves.size, .slice B0 d.leaves.peaks.length e0, .int .i64 d.taken.size, .slice B1 d.taken.peaks.length e1, .int .i64 d.head.number, .int .i64 d.head.size, .string d.head.root, .int .i64 d.head.taken, .string d.head.takenRoot] 35 35
  go_enter Tryz.func81, Tryz.ntmps81
  obtain ⟨r0, f0⟩ := K0.rules
  obtain ⟨r1, f1⟩ := K1.rules
  go_wp2_with fail
  obtain ⟨g, hg⟩ : ∃ g, g = w.heap.size := ⟨_, rfl⟩
  rw [← hg] at K0 K1
  rw [← hg]
  clear hg r0 f0 r1 f1
  refine (eqRange_same d.leaves A0 c0 B0 e0 _ (S0.out.ext he) (T0.out.ext he) l_leaves).mono ?_
  rintro e x0 ⟨rfl, hx⟩
  replace K0 := K0.ext hx; replace K1 := K1.ext hx; replace he := he.next hx; clear hx
  obtain ⟨r0, f0⟩ := K0.rules
  obtain ⟨r1, f1⟩ := K1.rules
  go_wp2_with fail
  clear r0 f0 r1 f1
  refine (eqRange_same d.taken A1 c1 B1 e1 _ (S1.out.ext he) (T1.out.ext he) l_taken).mono ?_
  rintro e x1 ⟨rfl, hx⟩
  replace K0 := K0.ext hx; replace K1 := K1.ext hx; replace he := he.next hx; clear hx
  obtain ⟨r0, f0⟩ := K0.rules
  obtain ⟨r1, f1⟩ := K1.rules
  go_wp2_with fail
  clear r0 f0 r1 f1
  refine (eqHead_same d.head _).mono ?_
  rintro e x2 ⟨rfl, hx⟩
  replace K0 := K0.ext hx; replace K1 := K1.ext hx; replace he := he.next hx; clear hx
  obtain ⟨r0, f0⟩ := K0.rules
  obtain ⟨r1, f1⟩ := K1.rules
  go_wp2_with fail
  clear r0 f0 r1 f1
  go_ret
  exact ⟨rfl, he⟩
end Go.Proofs.YtkcjhfidgnbdiaaGreat
