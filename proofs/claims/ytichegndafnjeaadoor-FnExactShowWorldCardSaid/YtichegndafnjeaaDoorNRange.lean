/-
  What Range is in memory; the laws' own functions at it: walks. Written by program (gen_nest.py). No condition.
-/
import Derived.Test.YtichegndafnjeaaDoorNest
import Derived.Test.YtichegndafnjeaaDoorNString
import Derived.StillTailTactics
namespace Go.Proofs.YtichegndafnjeaaDoor
set_option linter.unusedSimpArgs false
open Go.RowKit
set_option linter.unusedVariables false

structure RangeD where
  size : Int
  peaks : List ByteArray
def RangeD.In : Rep RangeD := fun p w cs d => ∃ (A0 : Option Addr) (c0 : Nat), cs = [.int .i64 d.size, .slice A0 d.peaks.length c0] ∧ SlF p sone 1 w A0 d.peaks c0
theorem RangeD.steady : Steady RangeD.In := ⟨fun h k => by obtain ⟨A0, c0, rfl, s0⟩ := h; exact ⟨_, _, rfl, s0.keep k⟩, fun h k => by obtain ⟨A0, c0, rfl, s0⟩ := h; exact ⟨_, _, rfl, s0.mono k⟩⟩
theorem RangeD.in_len {p : Nat → Prop} {w : World} {cs : List Value} {d : RangeD} (h : RangeD.In p w cs d) : cs.length = 2 := by obtain ⟨A0, c0, rfl, _⟩ := h; rfl
def RangeD.Ok (d : RangeD) : Prop := (Lit.int .i64 d.size).wf = true ∧ (∀ s ∈ d.peaks, s.size ≤ maxLen)
def RangeD.lens (d : RangeD) : List Nat := (d.peaks.length :: d.peaks.flatMap slens) ++ []
set_option maxRecDepth 100000 in
theorem RangeD.typed {w : World} {n : Nat} {cs : List Value} (h : Typed Tryd.prog w n 29 cs) : ∃ d : RangeD, RangeD.In AnyB w cs d ∧ d.Ok := by
  obtain ⟨hl, m, hf⟩ := typed_struct Tryd.underlying29 h
  have hC : Tryd.prog.cellsOf 29 = 2 := by kernel_rfl
  have hs0 : Tryd.prog.cellsOf 3 = 1 := by kernel_rfl
  have hs1 : Tryd.prog.cellsOf 27 = 1 := by kernel_rfl
  rw [hC] at hl
  match cs, hl with
  | [x0, x1], _ =>
    have f0 := hf _ (List.mem_iff_getElem?.2 ⟨0, rfl⟩)
    simp only [hs0, List.drop_zero, List.take_succ_cons, List.take_zero] at f0
    obtain ⟨a0, e0, w0⟩ := typed_int Tryd.underlying3 f0
    obtain rfl : x0 = _ := by simpa using e0
    have f1 := hf _ (List.mem_iff_getElem?.2 ⟨1, rfl⟩)
    simp only [hs1, List.drop_succ_cons, List.drop_zero, List.take_succ_cons, List.take_zero] at f1
    obtain ⟨A0, c0, a1, e1, s0, w1⟩ := typed_sliceF sone (fun s => s.size ≤ maxLen) 1 Tryd.underlying27 (by kernel_rfl) (by decide) sone_length (fun m es h => string_typed h) f1
    obtain rfl : x1 = _ := by simpa using e1
    exact ⟨⟨a0, a1⟩, ⟨_, _, rfl, s0⟩, w0, w1⟩
set_option maxHeartbeats 2000000 in
set_option maxRecDepth 100000 in
theorem szRange_any (d : RangeD) (A0 : Option Addr) (c0 : Nat) (left : Int) (w : World) (hok : d.Ok) (s0 : SlF AnyB sone 1 w A0 d.peaks c0) (h0 : 0 ≤ left) (h1 : left ≤ 1048576) :
    Calls Tryd.prog 58 #[.agg #[.int .i64 d.size, .slice A0 d.peaks.length c0], .int .i64 left] w fun e w' => e = .returned (.int .i64 (szL d.lens left)) ∧ Ext w w' := by
  obtain ⟨-, k_peaks⟩ := hok
  have S0 := Lib.hid s0; clear s0
  have K_peaks := Lib.hid k_peaks; clear k_peaks
  have K0 := Lib.hid (Blk.new w 29 #[.int .i64 d.size, .slice A0 d.peaks.length c0])
  have He := Lib.hid (Ext.new (Below.refl w.heap.size w) (.cells #[.int .i64 d.size, .slice A0 d.peaks.length c0] 29))
  obtain ⟨fin, hfin⟩ : ∃ fin, fin = szL d.lens left := ⟨_, rfl⟩
  have F : Hid (szL ((d.peaks.length :: d.peaks.flatMap slens) ++ []) left = fin) := Lib.hid hfin.symm
  rw [← hfin]
  clear hfin
  go_enter Tryd.func58, Tryd.ntmps58
  go_wp2_with fail
  refine (szStringS_any A0 c0 d.peaks left _ (S0.out.ext He.out) K_peaks.out h0 h1).mono ?_
  rintro e w1 ⟨rfl, hx⟩
  have K1 := K0.out.ext hx; have he := He.out.next hx; clear hx K0 He
  obtain ⟨r0, m0⟩ := K1.rules
  have hp := szL_pos (d.peaks.length :: d.peaks.flatMap slens) left h0
  have hqq := szL_le (d.peaks.length :: d.peaks.flatMap slens) left
  by_cases n0 : szL (d.peaks.length :: d.peaks.flatMap slens) left < 0
  · have E := Lib.hid (show (-1 : Int) = fin by rw [← F.out, szL_append _ _ _ h0, if_pos n0])
    have ev : szL (d.peaks.length :: d.peaks.flatMap slens) left = -1 := by omega
    clear hp hqq F
    go_wp2_with fail
    go_ret
    exact ⟨ret_int E.out, he⟩
  have F2 : Hid (szL ([]) (szL (d.peaks.length :: d.peaks.flatMap slens) left) = fin) := Lib.hid (by rw [← F.out, szL_append _ _ _ h0, if_neg n0])
  clear F
  have u0 : 0 ≤ szL (d.peaks.length :: d.peaks.flatMap slens) left := by omega
  have v0 : szL (d.peaks.length :: d.peaks.flatMap slens) left ≤ 1048576 := by omega
  clear hp hqq
  generalize szL (d.peaks.length :: d.peaks.flatMap slens) left = q0 at *
  have F := F2
  clear F2
  go_wp2_with fail
  go_ret
  exact ⟨ret_int (show q0 = fin from F.out), he⟩
set_option maxHeartbeats 4000000 in
set_option maxRecDepth 100000 in
theorem toRange_any (d : RangeD) (A0 : Option Addr) (c0 : Nat) (w : World) (s0 : SlF AnyB sone 1 w A0 d.peaks c0) (hf : ∀ n ∈ d.lens, n ≤ 1048576) :
    Calls Tryd.prog 64 #[.agg #[.int .i64 d.size, .slice A0 d.peaks.length c0]] w fun e w' => ∃ cs, e = .returned (.agg cs.toArray) ∧ RangeD.In (FromB w.heap.size) w' cs d ∧ Ext w w' := by
  have l_peaks : d.peaks.length ≤ 1048576 := hf _ (by simp [RangeD.lens])
  have S0 := Lib.hid s0; clear s0
  clear hf
  go_enter Tryd.func64, Tryd.ntmps64
  go_wp2_with fail
  have HE : Ext w (((w.alloc (.cells #[.int .i64 d.size, .slice A0 d.peaks.length c0] 29)).alloc (.cells #[.int .i64 0, .slice none 0 0] 50)).alloc (.cells #[.int .i64 d.size, .slice none 0 0] 50)) := Ext.new (Ext.new (Ext.new (Below.refl _ w) _) _) _
  refine (toStringS_any A0 c0 d.peaks _ (S0.out.ext HE) l_peaks).mono ?_
  rintro e x1 ⟨g0, rfl, hg, bg, hx⟩
  have B0 := (((Blk.new _ _ _).alloc _).alloc _).ext hx
  have B1 := ((Blk.new _ _ _).alloc _).ext hx
  have B2 := (Blk.new _ _ _).ext hx
  have he := HE.next hx
  have hgs : w.heap.size + 1 + 1 + 1 ≤ w.heap.size + 1 + 1 + 1 := Nat.le_refl _
  simp only [World.size_alloc] at B1 B2 hg
  have T0 : SlF (FromB (w.heap.size + 1 + 1 + 1)) sone 1 x1 (some ⟨g0, 0, none⟩) d.peaks d.peaks.length := SlF.new sone_length bg l_peaks (show _ ≤ _ by omega)
  clear hx HE hgs
  obtain ⟨r0, f0⟩ := B0.rules
  obtain ⟨r2, f2⟩ := B2.rules
  go_upto_region 4 with fail
  have he_ := ext_setCells (W := w) (g := (w.heap.size + 1 + 1)) (by omega) [.slice (some ⟨g0, 0, none⟩) d.peaks.length d.peaks.length] 1 x1 he
  have C2 := B2.put 1 [.slice (some ⟨g0, 0, none⟩) d.peaks.length d.peaks.length] #[.int .i64 d.size, .slice (some ⟨g0, 0, none⟩) d.peaks.length d.peaks.length] (by simp) rfl
  have C1 := B1.farCells (g' := (w.heap.size + 1 + 1)) (by omega) [.slice (some ⟨g0, 0, none⟩) d.peaks.length d.peaks.length] 1
  have C0 := B0.farCells (g' := (w.heap.size + 1 + 1)) (by omega) [.slice (some ⟨g0, 0, none⟩) d.peaks.length d.peaks.length] 1
  replace T0 := T0.keep (Keep.setCells (g := (w.heap.size + 1 + 1)) (by unfold FromB; omega) [.slice (some ⟨g0, 0, none⟩) d.peaks.length d.peaks.length] 1 x1)
  clear r0 f0 r2 f2 B0 B1 B2 he
  change Code.wp _ _ _ _ (x1.setCells (w.heap.size + 1 + 1) 1 [.slice (some ⟨g0, 0, none⟩) d.peaks.length d.peaks.length])
  generalize x1.setCells (w.heap.size + 1 + 1) 1 [.slice (some ⟨g0, 0, none⟩) d.peaks.length d.peaks.length] = y1 at *
  have B0 := C0; have B1 := C1; have B2 := C2; have he := he_
  clear C0 C1 C2 he_
  obtain ⟨r0, f0⟩ := B0.rules
  obtain ⟨r2, f2⟩ := B2.rules
  obtain ⟨r1, f1⟩ := B1.rules
  go_wp2_with fail
  have he_ := ext_setCells (W := w) (g := w.heap.size + 1) (by omega) [.int .i64 d.size, .slice (some ⟨g0, 0, none⟩) d.peaks.length d.peaks.length] 0 y1 he
  have E1 := B1.put 0 [.int .i64 d.size, .slice (some ⟨g0, 0, none⟩) d.peaks.length d.peaks.length] #[.int .i64 d.size, .slice (some ⟨g0, 0, none⟩) d.peaks.length d.peaks.length] (by simp) rfl
  replace T0 := T0.keep (Keep.setCells (g := w.heap.size + 1) (by unfold FromB; omega) [.int .i64 d.size, .slice (some ⟨g0, 0, none⟩) d.peaks.length d.peaks.length] 0 y1)
  change bodyPost _ _ _ _ _ (y1.setCells (w.heap.size + 1) 0 [.int .i64 d.size, .slice (some ⟨g0, 0, none⟩) d.peaks.length d.peaks.length])
  clear r0 f0 r1 f1 r2 f2 B0 B1 B2 he
  generalize y1.setCells (w.heap.size + 1) 0 [.int .i64 d.size, .slice (some ⟨g0, 0, none⟩) d.peaks.length d.peaks.length] = z at *
  exact ret_row rfl rfl E1 Tryd.underlying50 rfl (by kernel_rfl) rfl ⟨[.int .i64 d.size, .slice (some ⟨g0, 0, none⟩) d.peaks.length d.peaks.length], rfl, ⟨_, _, rfl, T0.mono (fun b hb => by unfold FromB at *; omega)⟩, he_⟩
set_option maxHeartbeats 2000000 in
set_option maxRecDepth 100000 in
theorem eqRange_same (d : RangeD) (A0 : Option Addr) (c0 : Nat) (B0 : Option Addr) (e0 : Nat) (w : World) (s0 : SlF AnyB sone 1 w A0 d.peaks c0) (t0 : SlF AnyB sone 1 w B0 d.peaks e0) (hf : ∀ n ∈ d.lens, n ≤ 1048576) :
    Calls Tryd.prog 71 #[.agg #[.int .i64 d.size, .slice A0 d.peaks.length c0], .agg #[.int .i64 d.size, .slice B0 d.peaks.length e0]] w fun e w' => e = .returned (.bool true) ∧ Ext w w' := by
  have l_peaks : d.peaks.length ≤ 1048576 := hf _ (by simp [RangeD.lens])
  have S0 := Lib.hid s0; have T0 := Lib.hid t0; clear s0 t0
  clear hf
  obtain ⟨K0, K1, he⟩ := two_new w #[.int .i64 d.size, .slice A0 d.peaks.length c0] #[.int .i64 d.size, .slice B0 d.peaks.length e0] 50 50
  go_enter Tryd.func71, Tryd.ntmps71
  obtain ⟨r0, f0⟩ := K0.rules
  obtain ⟨r1, f1⟩ := K1.rules
  go_wp2_with fail
  obtain ⟨g, hg⟩ : ∃ g, g = w.heap.size := ⟨_, rfl⟩
  rw [← hg] at K0 K1
  rw [← hg]
  clear hg r0 f0 r1 f1
  refine (eqStringS_slf A0 B0 c0 e0 d.peaks _ (S0.out.ext he) (T0.out.ext he) l_peaks).mono ?_
  rintro e x1 ⟨rfl, hx⟩
  replace K0 := K0.ext hx; replace K1 := K1.ext hx; replace he := he.next hx; clear hx
  obtain ⟨r0, f0⟩ := K0.rules
  obtain ⟨r1, f1⟩ := K1.rules
  go_wp2_with fail
  clear r0 f0 r1 f1
  go_ret
  exact ⟨rfl, he⟩
end Go.Proofs.YtichegndafnjeaaDoor
