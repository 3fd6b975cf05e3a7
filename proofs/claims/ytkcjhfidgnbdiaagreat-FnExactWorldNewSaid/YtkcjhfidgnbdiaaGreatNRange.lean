/-
  What Log is in memory; the laws' own functions at it: walks. Written by program (gen_nest.py). No condition.
  What Range is in memory; the laws' own functions at it: walks. Written by program (gen_nest.py). No condition.
-/
import Derived.Test.YtkcjhfidgnbdiaaGreatNest
import Derived.Test.YtkcjhfidgnbdiaaGreatConvEntry
import Derived.StillTailTactics
import Derived.Test.YtkcjhfidgnbdiaaGreatNamesOk
namespace Go.Proofs.YtkcjhfidgnbdiaaGreat
set_option linter.unusedSimpArgs false
open Go.RowKit
set_option linter.unusedVariables false

structure LogD where
  entries : List EntryD
def LogD.In : Rep LogD := fun p w cs d => ∃ (A0 : Option Addr) (c0 : Nat), cs = [.slice A0 d.entries.length c0] ∧ SlF p EntryD.cells 5 w A0 d.entries c0
theorem LogD.steady : Steady LogD.In := ⟨fun h k => by obtain ⟨A0, c0, rfl, s0⟩ := h; exact ⟨_, _, rfl, s0.keep k⟩, fun h k => by obtain ⟨A0, c0, rfl, s0⟩ := h; exact ⟨_, _, rfl, s0.mono k⟩⟩
theorem LogD.in_len {p : Nat → Prop} {w : World} {cs : List Value} {d : LogD} (h : LogD.In p w cs d) : cs.length = 1 := by obtain ⟨A0, c0, rfl, _⟩ := h; rfl
def LogD.Ok (d : LogD) : Prop := (∀ x ∈ d.entries, x.Ok)
def LogD.lens (d : LogD) : List Nat := (d.entries.length :: d.entries.flatMap EntryD.lens) ++ []
set_option maxRecDepth 100000 in
theorem LogD.typed {w : World} {n : Nat} {cs : List Value} (h : Typed Tryz.prog w n 55 cs) : ∃ d : LogD, LogD.In AnyB w cs d ∧ d.Ok := by
  obtain ⟨hl, m, hf⟩ := typed_struct Tryz.underlying55 h
  have hC : Tryz.prog.cellsOf 55 = 1 := by kernel_rfl
  have hs0 : Tryz.prog.cellsOf 53 = 1 := by kernel_rfl
  rw [hC] at hl
  match cs, hl with
  | [x0], _ =>
    have f0 := hf _ (List.mem_iff_getElem?.2 ⟨0, rfl⟩)
    simp only [hs0, List.drop_zero, List.take_succ_cons, List.take_zero] at f0
    obtain ⟨A0, c0, a0, e0, s0, w0⟩ := typed_sliceF EntryD.cells EntryD.Ok 5 Tryz.underlying53 (by kernel_rfl) (by decide) EntryD.cells_length (fun m es h => EntryD.typed h) f0
    obtain rfl : x0 = _ := by simpa using e0
    exact ⟨⟨a0⟩, ⟨_, _, rfl, s0⟩, w0⟩
set_option maxHeartbeats 2000000 in
set_option maxRecDepth 100000 in
theorem szLog_any (d : LogD) (A0 : Option Addr) (c0 : Nat) (left : Int) (w : World) (hok : d.Ok) (s0 : SlF AnyB EntryD.cells 5 w A0 d.entries c0) (h0 : 0 ≤ left) (h1 : left ≤ 1048576) :
    Calls Tryz.prog 66 #[.agg #[.slice A0 d.entries.length c0], .int .i64 left] w fun e w' => e = .returned (.int .i64 (szL d.lens left)) ∧ Ext w w' := by
  have k_entries := hok
  have S0 := Lib.hid s0; clear s0
  have K_entries := Lib.hid k_entries; clear k_entries
  have K0 := Lib.hid (Blk.new w 55 #[.slice A0 d.entries.length c0])
  have He := Lib.hid (Ext.new (Below.refl w.heap.size w) (.cells #[.slice A0 d.entries.length c0] 55))
  obtain ⟨fin, hfin⟩ : ∃ fin, fin = szL d.lens left := ⟨_, rfl⟩
  have F : Hid (szL ((d.entries.length :: d.entries.flatMap EntryD.lens) ++ []) left = fin) := Lib.hid hfin.symm
  rw [← hfin]
  clear hfin
  go_enter Tryz.func66, Tryz.ntmps66
  go_wp2_with fail
  refine (szEntryS_any A0 c0 d.entries left _ (S0.out.ext He.out).reads K_entries.out S0.out.len h0 h1).mono ?_
  rintro e w1 ⟨rfl, hx⟩
  have K1 := K0.out.ext hx; have he := He.out.next hx; clear hx K0 He
  obtain ⟨r0, m0⟩ := K1.rules
  have hp := szL_pos (d.entries.length :: d.entries.flatMap EntryD.lens) left h0
  have hqq := szL_le (d.entries.length :: d.entries.flatMap EntryD.lens) left
  by_cases n0 : szL (d.entries.length :: d.entries.flatMap EntryD.lens) left < 0
  · have E := Lib.hid (show (-1 : Int) = fin by rw [← F.out, szL_append _ _ _ h0, if_pos n0])
    have ev : szL (d.entries.length :: d.entries.flatMap EntryD.lens) left = -1 := by omega
    clear hp hqq F
    go_wp2_with fail
    go_ret
    exact ⟨ret_int E.out, he⟩
  have F2 : Hid (szL ([]) (szL (d.entries.length :: d.entries.flatMap EntryD.lens) left) = fin) := Lib.hid (by rw [← F.out, szL_append _ _ _ h0, if_neg n0])
  clear F
  have u0 : 0 ≤ szL (d.entries.length :: d.entries.flatMap EntryD.lens) left := by omega
  have v0 : szL (d.entries.length :: d.entries.flatMap EntryD.lens) left ≤ 1048576 := by omega
  clear hp hqq
  generalize szL (d.entries.length :: d.entries.flatMap EntryD.lens) left = q0 at *
  have F := F2
  clear F2
  go_wp2_with fail
  go_ret
  exact ⟨ret_int (show q0 = fin from F.out), he⟩
set_option maxHeartbeats 4000000 in
set_option maxRecDepth 100000 in
theorem toLog_any (d : LogD) (A0 : Option Addr) (c0 : Nat) (w : World) (s0 : SlF AnyB EntryD.cells 5 w A0 d.entries c0) (hf : ∀ n ∈ d.lens, n ≤ 1048576) :
    Calls Tryz.prog 72 #[.agg #[.slice A0 d.entries.length c0]] w fun e w' => ∃ cs, e = .returned (.agg cs.toArray) ∧ LogD.In (FromB w.heap.size) w' cs d ∧ Ext w w' := by
  have l_entries : d.entries.length ≤ 1048576 := hf _ (by simp [LogD.lens])
  have S0 := Lib.hid s0; clear s0
  clear hf
  go_enter Tryz.func72, Tryz.ntmps72
  go_wp2_with fail
  have HE : Ext w (((w.alloc (.cells #[.slice A0 d.entries.length c0] 55)).alloc (.cells #[.slice none 0 0] 26)).alloc (.cells #[.slice none 0 0] 26)) := Ext.new (Ext.new (Ext.new (Below.refl _ w) _) _) _
  refine (toEntryS_any A0 c0 d.entries _ (S0.out.ext HE).reads l_entries).mono ?_
  rintro e x0 ⟨g0, rfl, hg, bg, hx⟩
  have B0 := (((Blk.new _ _ _).alloc _).alloc _).ext hx
  have B1 := ((Blk.new _ _ _).alloc _).ext hx
  have B2 := (Blk.new _ _ _).ext hx
  have he := HE.next hx
  have hgs : w.heap.size + 1 + 1 + 1 ≤ w.heap.size + 1 + 1 + 1 := Nat.le_refl _
  simp only [World.size_alloc] at B1 B2 hg
  have T0 : SlF (FromB (w.heap.size + 1 + 1 + 1)) EntryD.cells 5 x0 (some ⟨g0, 0, none⟩) d.entries d.entries.length := SlF.new EntryD.cells_length bg l_entries (show _ ≤ _ by omega)
  clear hx HE hgs
  obtain ⟨r0, f0⟩ := B0.rules
  obtain ⟨r2, f2⟩ := B2.rules
  go_upto_region 3 with fail
  have he_ := ext_setCells (W := w) (g := (w.heap.size + 1 + 1)) (by omega) [.slice (some ⟨g0, 0, none⟩) d.entries.length d.entries.length] 0 x0 he
  have C2 := B2.put 0 [.slice (some ⟨g0, 0, none⟩) d.entries.length d.entries.length] #[.slice (some ⟨g0, 0, none⟩) d.entries.length d.entries.length] (by simp) rfl
  have C1 := B1.farCells (g' := (w.heap.size + 1 + 1)) (by omega) [.slice (some ⟨g0, 0, none⟩) d.entries.length d.entries.length] 0
  have C0 := B0.farCells (g' := (w.heap.size + 1 + 1)) (by omega) [.slice (some ⟨g0, 0, none⟩) d.entries.length d.entries.length] 0
  replace T0 := T0.keep (Keep.setCells (g := (w.heap.size + 1 + 1)) (by unfold FromB; omega) [.slice (some ⟨g0, 0, none⟩) d.entries.length d.entries.length] 0 x0)
  clear r0 f0 r2 f2 B0 B1 B2 he
  change Code.wp _ _ _ _ (x0.setCells (w.heap.size + 1 + 1) 0 [.slice (some ⟨g0, 0, none⟩) d.entries.length d.entries.length])
  generalize x0.setCells (w.heap.size + 1 + 1) 0 [.slice (some ⟨g0, 0, none⟩) d.entries.length d.entries.length] = y0 at *
  have B0 := C0; have B1 := C1; have B2 := C2; have he := he_
  clear C0 C1 C2 he_
  obtain ⟨r0, f0⟩ := B0.rules
  obtain ⟨r2, f2⟩ := B2.rules
  obtain ⟨r1, f1⟩ := B1.rules
  go_wp2_with fail
  have he_ := ext_setCells (W := w) (g := w.heap.size + 1) (by omega) [.slice (some ⟨g0, 0, none⟩) d.entries.length d.entries.length] 0 y0 he
  have E1 := B1.put 0 [.slice (some ⟨g0, 0, none⟩) d.entries.length d.entries.length] #[.slice (some ⟨g0, 0, none⟩) d.entries.length d.entries.length] (by simp) rfl
  replace T0 := T0.keep (Keep.setCells (g := w.heap.size + 1) (by unfold FromB; omega) [.slice (some ⟨g0, 0, none⟩) d.entries.length d.entries.length] 0 y0)
  change bodyPost _ _ _ _ _ (y0.setCells (w.heap.size + 1) 0 [.slice (some ⟨g0, 0, none⟩) d.entries.length d.entries.length])
  clear r0 f0 r1 f1 r2 f2 B0 B1 B2 he
  generalize y0.setCells (w.heap.size + 1) 0 [.slice (some ⟨g0, 0, none⟩) d.entries.length d.entries.length] = z at *
  exact ret_row rfl rfl E1 Tryz.underlying26 rfl (by kernel_rfl) rfl ⟨[.slice (some ⟨g0, 0, none⟩) d.entries.length d.entries.length], rfl, ⟨_, _, rfl, T0.mono (fun b hb => by unfold FromB at *; omega)⟩, he_⟩
set_option maxHeartbeats 2000000 in
set_option maxRecDepth 100000 in
theorem eqLog_same (d : LogD) (A0 : Option Addr) (c0 : Nat) (B0 : Option Addr) (e0 : Nat) (w : World) (s0 : SlF AnyB EntryD.cells 5 w A0 d.entries c0) (t0 : SlF AnyB EntryD.cells 5 w B0 d.entries e0) (hf : ∀ n ∈ d.lens, n ≤ 1048576) :
    Calls Tryz.prog 78 #[.agg #[.slice A0 d.entries.length c0], .agg #[.slice B0 d.entries.length e0]] w fun e w' => e = .returned (.bool true) ∧ Ext w w' := by
  have l_entries : d.entries.length ≤ 1048576 := hf _ (by simp [LogD.lens])
  have S0 := Lib.hid s0; have T0 := Lib.hid t0; clear s0 t0
  clear hf
  obtain ⟨K0, K1, he⟩ := two_new w #[.slice A0 d.entries.length c0] #[.slice B0 d.entries.length e0] 26 26
  go_enter Tryz.func78, Tryz.ntmps78
  obtain ⟨r0, f0⟩ := K0.rules
  obtain ⟨r1, f1⟩ := K1.rules
  go_wp2_with fail
  obtain ⟨g, hg⟩ : ∃ g, g = w.heap.size := ⟨_, rfl⟩
  rw [← hg] at K0 K1
  rw [← hg]
  clear hg r0 f0 r1 f1
  refine (eqEntryS_same A0 B0 c0 e0 d.entries _ (S0.out.ext he).reads (T0.out.ext he).reads l_entries).mono ?_
  rintro e x0 ⟨rfl, hx⟩
  replace K0 := K0.ext hx; replace K1 := K1.ext hx; replace he := he.next hx; clear hx
  obtain ⟨r0, f0⟩ := K0.rules
  obtain ⟨r1, f1⟩ := K1.rules
  go_wp2_with fail
  clear r0 f0 r1 f1
  go_ret
  exact ⟨rfl, he⟩
end Go.Proofs.YtkcjhfidgnbdiaaGreat
namespace Go.Proofs.YtkcjhfidgnbdiaaGreat
set_option linter.unusedSimpArgs false
open Go.RowKit
set_option linter.unusedVariables false

structure RangeD where
  size : Int
  peaks : List ByteArray
def RangeD.In : Rep RangeD := fun p w cs d => ∃ (A0 : Option Addr) (c0 : Nat), cs = [.int .i64 d.size, .slice A0 d.peaks.length c0] ∧ SlF p sone 1 w A0 d.peaks c0
theorem RangeD.steady : Steady RangeD.In := ⟨fun h k => by obtain ⟨A0, c0, rfl, s0⟩ := h; exact ⟨_, _, rfl, s0.keep k⟩, fun h k => by obtain ⟨A0, c0, rfl, s0⟩ := h; exact ⟨_, _, rfl, s0.mono k⟩⟩
theorem RangeD.in_len {p : Nat → Prop} {w : World} {cs : List Value} {d : RangeD} (h : RangeD.In p w cs d) : cs.length = 2 := by obtain ⟨A0, c0, rfl, _⟩ := h; rfl
def RangeD.Ok (d : RangeD) : Prop := (Lit.int .i64 d.size).wf = true ∧ (∀ s ∈ d.peaks, s.size ≤ maxLen)
def RangeD.lens (d : RangeD) : List Nat := (d.peaks.length :: d.peaks.flatMap slens) ++ []
set_option maxRecDepth 100000 in
theorem RangeD.typed {w : World} {n : Nat} {cs : List Value} (h : Typed Tryz.prog w n 58 cs) : ∃ d : RangeD, RangeD.In AnyB w cs d ∧ d.Ok := by
  obtain ⟨hl, m, hf⟩ := typed_struct Tryz.underlying58 h
  have hC : Tryz.prog.cellsOf 58 = 2 := by kernel_rfl
  have hs0 : Tryz.prog.cellsOf 3 = 1 := by kernel_rfl
  have hs1 : Tryz.prog.cellsOf 29 = 1 := by kernel_rfl
  rw [hC] at hl
  match cs, hl with
  | [x0, x1], _ =>
    have f0 := hf _ (List.mem_iff_getElem?.2 ⟨0, rfl⟩)
    simp only [hs0, List.drop_zero, List.take_succ_cons, List.take_zero] at f0
    obtain ⟨a0, e0, w0⟩ := typed_int Tryz.underlying3 f0
    obtain rfl : x0 = _ := by simpa using e0
    have f1 := hf _ (List.mem_iff_getElem?.2 ⟨1, rfl⟩)
    simp only [hs1, List.drop_succ_cons, List.drop_zero, List.take_succ_cons, List.take_zero] at f1
    obtain ⟨A0, c0, a1, e1, s0, w1⟩ := typed_sliceF sone (fun s => s.size ≤ maxLen) 1 Tryz.underlying29 (by kernel_rfl) (by decide) sone_length (fun m es h => string_typed h) f1
    obtain rfl : x1 = _ := by simpa using e1
    exact ⟨⟨a0, a1⟩, ⟨_, _, rfl, s0⟩, w0, w1⟩
set_option maxHeartbeats 2000000 in
set_option maxRecDepth 100000 in
theorem szRange_any (d : RangeD) (A0 : Option Addr) (c0 : Nat) (left : Int) (w : World) (hok : d.Ok) (s0 : SlF AnyB sone 1 w A0 d.peaks c0) (h0 : 0 ≤ left) (h1 : left ≤ 1048576) :
    Calls Tryz.prog 152 #[.agg #[.int .i64 d.size, .slice A0 d.peaks.length c0], .int .i64 left] w fun e w' => e = .returned (.int .i64 (szL d.lens left)) ∧ Ext w w' := by
  obtain ⟨-, k_peaks⟩ := hok
  have S0 := Lib.hid s0; clear s0
  have K_peaks := Lib.hid k_peaks; clear k_peaks
  have K0 := Lib.hid (Blk.new w 58 #[.int .i64 d.size, .slice A0 d.peaks.length c0])
  have He := Lib.hid (Ext.new (Below.refl w.heap.size w) (.cells #[.int .i64 d.size, .slice A0 d.peaks.length c0] 58))
  obtain ⟨fin, hfin⟩ : ∃ fin, fin = szL d.lens left := ⟨_, rfl⟩
  have F : Hid (szL ((d.peaks.length :: d.peaks.flatMap slens) ++ []) left = fin) := Lib.hid hfin.symm
  rw [← hfin]
  clear hfin
  go_enter Tryz.func152, Tryz.ntmps152
  go_wp2_with fail
  refine (szStringS_any A0 c0 d.peaks left _ (S0.out.ext He.out) K_peaks.out h0 h1).mono ?_
  rintro e w1 ⟨rfl, hx⟩
  have K1 := K0.out.ext hx; have he := He.out.next hx; clear hx K0 He
  obtain ⟨r0, m0⟩ := K1.rules
  have hp := szL_pos (d.peaks.length :: d.peaks.flatMap slens) left h0
  have hqq := szL_le (d.peaks.length :: d.peaks.flatMap slens) left
  by_cases n0 : szL (d.peaks.length :: d.peaks.flatMap slens) left < 0
  · have E := Lib.hid (show (-1 : Int) = fin by rw [← F.out, szL_append _ _ _ h0, if_pos n0])
    have ev : szL (d.peaks.length :: d.peaks.flatMap slens) left = -1 := by omega
    clear hp hqq F
    go_wp2_with fail
    go_ret
    exact ⟨ret_int E.out, he⟩
  have F2 : Hid (szL ([]) (szL (d.peaks.length :: d.peaks.flatMap slens) left) = fin) := Lib.hid (by rw [← F.out, szL_append _ _ _ h0, if_neg n0])
  clear F
  have u0 : 0 ≤ szL (d.peaks.length :: d.peaks.flatMap slens) left := by omega
  have v0 : szL (d.peaks.length :: d.peaks.flatMap slens) left ≤ 1048576 := by omega
  clear hp hqq
  generalize szL (d.peaks.length :: d.peaks.flatMap slens) left = q0 at *
  have F := F2
  clear F2
  go_wp2_with fail
  go_ret
  exact ⟨ret_int (show q0 = fin from F.out), he⟩
set_option maxHeartbeats 4000000 in
set_option maxRecDepth 100000 in
theorem toRange_any (d : RangeD) (A0 : Option Addr) (c0 : Nat) (w : World) (s0 : SlF AnyB sone 1 w A0 d.peaks c0) (hf : ∀ n ∈ d.lens, n ≤ 1048576) :
    Calls Tryz.prog 163 #[.agg #[.int .i64 d.size, .slice A0 d.peaks.length c0]] w fun e w' => ∃ cs, e = .returned (.agg cs.toArray) ∧ RangeD.In (FromB w.heap.size) w' cs d ∧ Ext w w' := by
  have l_peaks : d.peaks.length ≤ 1048576 := hf _ (by simp [RangeD.lens])
  have S0 := Lib.hid s0; clear s0
  clear hf
  go_enter Tryz.func163, Tryz.ntmps163
  go_wp2_with fail
  have HE : Ext w (((w.alloc (.cells #[.int .i64 d.size, .slice A0 d.peaks.length c0] 58)).alloc (.cells #[.int .i64 0, .slice none 0 0] 31)).alloc (.cells #[.int .i64 d.size, .slice none 0 0] 31)) := Ext.new (Ext.new (Ext.new (Below.refl _ w) _) _) _
  refine (toStringS_any A0 c0 d.peaks _ (S0.out.ext HE) l_peaks).mono ?_
  rintro e x1 ⟨g0, rfl, hg, bg, hx⟩
  have B0 := (((Blk.new _ _ _).alloc _).alloc _).ext hx
  have B1 := ((Blk.new _ _ _).alloc _).ext hx
  have B2 := (Blk.new _ _ _).ext hx
  have he := HE.next hx
  have hgs : w.heap.size + 1 + 1 + 1 ≤ w.heap.size + 1 + 1 + 1 := Nat.le_refl _
  simp only [World.size_alloc] at B1 B2 hg
  have T0 : SlF (FromB (w.heap.size + 1 + 1 + 1)) sone 1 x1 (some ⟨g0, 0, none⟩) d.peaks d.peaks.length := SlF.new sone_length bg l_peaks (show _ ≤ _ by omega)
  clear hx HE hgs
  obtain ⟨r0, f0⟩ := B0.rules
  obtain ⟨r2, f2⟩ := B2.rules
  go_upto_region 4 with fail
  have he_ := ext_setCells (W := w) (g := (w.heap.size + 1 + 1)) (by omega) [.slice (some ⟨g0, 0, none⟩) d.peaks.length d.peaks.length] 1 x1 he
  have C2 := B2.put 1 [.slice (some ⟨g0, 0, none⟩) d.peaks.length d.peaks.length] #[.int .i64 d.size, .slice (some ⟨g0, 0, none⟩) d.peaks.length d.peaks.length] (by simp) rfl
  have C1 := B1.farCells (g' := (w.heap.size + 1 + 1)) (by omega) [.slice (some ⟨g0, 0, none⟩) d.peaks.length d.peaks.length] 1
  have C0 := B0.farCells (g' := (w.heap.size + 1 + 1)) (by omega) [.slice (some ⟨g0, 0, none⟩) d.peaks.length d.peaks.length] 1
  replace T0 := T0.keep (Keep.setCells (g := (w.heap.size + 1 + 1)) (by unfold FromB; omega) [.slice (some ⟨g0, 0, none⟩) d.peaks.length d.peaks.length] 1 x1)
  clear r0 f0 r2 f2 B0 B1 B2 he
  change Code.wp _ _ _ _ (x1.setCells (w.heap.size + 1 + 1) 1 [.slice (some ⟨g0, 0, none⟩) d.peaks.length d.peaks.length])
  generalize x1.setCells (w.heap.size + 1 + 1) 1 [.slice (some ⟨g0, 0, none⟩) d.peaks.length d.peaks.length] = y1 at *
  have B0 := C0; have B1 := C1; have B2 := C2; have he := he_
  clear C0 C1 C2 he_
  obtain ⟨r0, f0⟩ := B0.rules
  obtain ⟨r2, f2⟩ := B2.rules
  obtain ⟨r1, f1⟩ := B1.rules
  go_wp2_with fail
  have he_ := ext_setCells (W := w) (g := w.heap.size + 1) (by omega) [.int .i64 d.size, .slice (some ⟨g0, 0, none⟩) d.peaks.length d.peaks.length] 0 y1 he
  have E1 := B1.put 0 [.int .i64 d.size, .slice (some ⟨g0, 0, none⟩) d.peaks.length d.peaks.length] #[.int .i64 d.size, .slice (some ⟨g0, 0, none⟩) d.peaks.length d.peaks.length] (by simp) rfl
  replace T0 := T0.keep (Keep.setCells (g := w.heap.size + 1) (by unfold FromB; omega) [.int .i64 d.size, .slice (some ⟨g0, 0, none⟩) d.peaks.length d.peaks.length] 0 y1)
  change bodyPost _ _ _ _ _ (y1.setCells (w.heap.size + 1) 0 [.int .i64 d.size, .slice (some ⟨g0, 0, none⟩) d.peaks.length d.peaks.length])
  clear r0 f0 r1 f1 r2 f2 B0 B1 B2 he
  generalize y1.setCells (w.heap.size + 1) 0 [.int .i64 d.size, .slice (some ⟨g0, 0, none⟩) d.peaks.length d.peaks.length] = z at *
  exact ret_row rfl rfl E1 Tryz.underlying31 rfl (by kernel_rfl) rfl ⟨[.int .i64 d.size, .slice (some ⟨g0, 0, none⟩) d.peaks.length d.peaks.length], rfl, ⟨_, _, rfl, T0.mono (fun b hb => by unfold FromB at *; omega)⟩, he_⟩
set_option maxHeartbeats 2000000 in
set_option maxRecDepth 100000 in
theorem eqRange_same (d : RangeD) (A0 : Option Addr) (c0 : Nat) (B0 : Option Addr) (e0 : Nat) (w : World) (s0 : SlF AnyB sone 1 w A0 d.peaks c0) (t0 : SlF AnyB sone 1 w B0 d.peaks e0) (hf : ∀ n ∈ d.lens, n ≤ 1048576) :
    Calls Tryz.prog 170 #[.agg #[.int .i64 d.size, .slice A0 d.peaks.length c0], .agg #[.int .i64 d.size, .slice B0 d.peaks.length e0]] w fun e w' => e = .returned (.bool true) ∧ Ext w w' := by
  have l_peaks : d.peaks.length ≤ 1048576 := hf _ (by simp [RangeD.lens])
  have S0 := Lib.hid s0; have T0 := Lib.hid t0; clear s0 t0
  clear hf
  obtain ⟨K0, K1, he⟩ := two_new w #[.int .i64 d.size, .slice A0 d.peaks.length c0] #[.int .i64 d.size, .slice B0 d.peaks.length e0] 31 31
  go_enter Tryz.func170, Tryz.ntmps170
  obtain ⟨r0, f0⟩ := K0.rules
  obtain ⟨r1, f1⟩ := K1.rules
  go_wp2_with fail
  obtain ⟨g, hg⟩ : ∃ g, g = w.heap.size := ⟨_, rfl⟩
  rw [← hg] at K0 K1
  rw [← hg]
  clear hg r0 f0 r1 f1
  refine (eqStringS_slf A0 B0 c0 e0 d.peaks _ (S0.out.ext he) (T0.out.ext he) l_peaks).mono ?_
  rintro e x1 ⟨rfl, hx⟩
  replace K0 := K0.ext hx; replace K1 := K1.ext hx; replace he := he.next hx; clear hx
  obtain ⟨r0, f0⟩ := K0.rules
  obtain ⟨r1, f1⟩ := K1.rules
  go_wp2_with fail
  clear r0 f0 r1 f1
  go_ret
  exact ⟨rfl, he⟩
end Go.Proofs.YtkcjhfidgnbdiaaGreat
