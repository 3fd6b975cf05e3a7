/-
  BrkOwn: No condition.
-/
import Derived.Test.YtlgdghpnfclgpaaGreatCopyC
import Derived.Test.YtlgdghpnfclgpaaGreatNBroker
namespace Go.Proofs.YtlgdghpnfclgpaaGreat
set_option maxHeartbeats 8000000
set_option maxRecDepth 100000
set_option linter.unusedSimpArgs false
open Go.RowKit
set_option linter.unusedVariables false
theorem toLog_own (d : LogD) (A0 : Option Addr) (c0 : Nat) (w : World) (s0 : SlF AnyB EntryD.cells 5 w A0 d.entries c0) (hf : ∀ n ∈ d.lens, n ≤ 1048576) :
 Calls Tryz.prog 47 #[.agg #[.slice A0 d.entries.length c0]] w fun e w' => ∃ A D, e = .returned (.agg #[.slice A d.entries.length D]) ∧ w'.ownsRow w.heap.size 46 5 (.slice A d.entries.length D) d.entries.length (d.entries.flatMap EntryD.cells) ∧ Ext w w' := by
 have l_entries : d.entries.length ≤ 1048576 := hf _ (by simp [LogD.lens])
 have S0 := hU s0; clear s0
 clear hf
 go_enter Tryz.func47, Tryz.ntmps47
 go_wp2_with fail
 have HE : Ext w (((w.alloc (.cells #[.slice A0 d.entries.length c0] 33)).alloc (.cells #[.slice none 0 0] 51)).alloc (.cells #[.slice none 0 0] 51)) := Ext.new (Ext.new (Ext.new (Below.refl _ w) _) _) _
 refine (toEntryS_any A0 c0 d.entries _ (S0.out.ext HE).reads l_entries).mono ?_
 rintro e x0 ⟨g0, rfl, hg, bg, hx⟩
 have B0 := (((Blk.new _ _ _).alloc _).alloc _).ext hx
 have B1 := ((Blk.new _ _ _).alloc _).ext hx
 have B2 := (Blk.new _ _ _).ext hx
 have he := HE.next hx
 have hgs : w.heap.size + 1 + 1 + 1 ≤ w.heap.size + 1 + 1 + 1 := Nat.le_refl _
 simp only [World.size_alloc] at B1 B2 hg
 have T0 : x0.ownsRow (w.heap.size + 1 + 1 + 1) 46 5 (.slice (some ⟨g0, 0, none⟩) d.entries.length d.entries.length) d.entries.length (d.entries.flatMap EntryD.cells) := bg.ownsRow _ 5 _ (by omega) (flat_len _ 5 EntryD.cells_length _) (by unfold maxLen; omega)
 clear hx HE hgs
 obtain ⟨r0, f0⟩ := B0.rules
 obtain ⟨r2, f2⟩ := B2.rules
 go_upto_region 3 with fail
 have he_ := ext_setCells (W := w) (g := (w.heap.size + 1 + 1)) (by omega) [.slice (some ⟨g0, 0, none⟩) d.entries.length d.entries.length] 0 x0 he
 have C2 := B2.put 0 [.slice (some ⟨g0, 0, none⟩) d.entries.length d.entries.length] #[.slice (some ⟨g0, 0, none⟩) d.entries.length d.entries.length] (by simp) rfl
 have C1 := B1.farCells (g' := (w.heap.size + 1 + 1)) (by omega) [.slice (some ⟨g0, 0, none⟩) d.entries.length d.entries.length] 0
 have C0 := B0.farCells (g' := (w.heap.size + 1 + 1)) (by omega) [.slice (some ⟨g0, 0, none⟩) d.entries.length d.entries.length] 0
 replace T0 := row_far (B := w.heap.size + 1 + 1 + 1) (g := (w.heap.size + 1 + 1)) T0 (by omega) (Nat.le_refl _) [.slice (some ⟨g0, 0, none⟩) d.entries.length d.entries.length] 0
 clear r0 f0 r2 f2 B0 B1 B2 he
 change Code.wp _ _ _ _ (x0.setCells (w.heap.size + 1 + 1) 0 [.slice (some ⟨g0, 0, none⟩) d.entries.length d.entries.length])
 generalize x0.setCells (w.heap.size + 1 + 1) 0 [.slice (some ⟨g0, 0, none⟩) d.entries.length d.entries.length] = y0 at *
 have B0 := C0; have B1 := C1; have B2 := C2; have he := he_
 clear C0 C1 C2 he_
 obtain ⟨r0, f0⟩ := B0.rules
 obtain ⟨r2, f2⟩ := B2.rules
 obtain ⟨r1, f1⟩ := B1.rules
 go_wp2_with fail
 have he_ := ext_setCells (W := w) (g := w.heap.size + 1) (by omega) [.slice (some ⟨g0, 0, none⟩) d.entries.length d.entries.length] 0 y0 he
 have E1 := B1.put 0 [.slice (some ⟨g0, 0, none⟩) d.entries.length d.entries.length] #[.slice (some ⟨g0, 0, none⟩) d.entries.length d.entries.length] (by simp) rfl
 replace T0 := row_far (B := w.heap.size + 1 + 1 + 1) (g := w.heap.size + 1) T0 (by omega) (Nat.le_refl _) [.slice (some ⟨g0, 0, none⟩) d.entries.length d.entries.length] 0
 change bodyPost _ _ _ _ _ (y0.setCells (w.heap.size + 1) 0 [.slice (some ⟨g0, 0, none⟩) d.entries.length d.entries.length])
 clear r0 f0 r1 f1 r2 f2 B0 B1 B2 he
 generalize y0.setCells (w.heap.size + 1) 0 [.slice (some ⟨g0, 0, none⟩) d.entries.length d.entries.length] = z at *
 exact ret_row rfl rfl E1 Tryz.underlying51 rfl (by kernel_rfl) rfl ⟨_, _, rfl, ownsRow_base T0 (by omega), he_⟩
theorem toRange_own (d : RangeD) (A0 : Option Addr) (c0 : Nat) (w : World) (s0 : SlF AnyB sone 1 w A0 d.peaks c0) (hf : ∀ n ∈ d.lens, n ≤ 1048576) :
 Calls Tryz.prog 108 #[.agg #[.int .i64 d.size, .slice A0 d.peaks.length c0]] w fun e w' => ∃ A D, e = .returned (.agg #[.int .i64 d.size, .slice A d.peaks.length D]) ∧ w'.ownsRow w.heap.size 9 1 (.slice A d.peaks.length D) d.peaks.length (d.peaks.flatMap sone) ∧ Ext w w' := by
 have l_peaks : d.peaks.length ≤ 1048576 := hf _ (by simp [RangeD.lens])
 have S0 := hU s0; clear s0
 clear hf
 go_enter Tryz.func108, Tryz.ntmps108
 go_wp2_with fail
 have HE : Ext w (((w.alloc (.cells #[.int .i64 d.size, .slice A0 d.peaks.length c0] 37)).alloc (.cells #[.int .i64 0, .slice none 0 0] 54)).alloc (.cells #[.int .i64 d.size, .slice none 0 0] 54)) := Ext.new (Ext.new (Ext.new (Below.refl _ w) _) _) _
 refine (toStringS_any A0 c0 d.peaks _ (S0.out.ext HE) l_peaks).mono ?_
 rintro e x1 ⟨g0, rfl, hg, bg, hx⟩
 have B0 := (((Blk.new _ _ _).alloc _).alloc _).ext hx
 have B1 := ((Blk.new _ _ _).alloc _).ext hx
 have B2 := (Blk.new _ _ _).ext hx
 have he := HE.next hx
 have hgs : w.heap.size + 1 + 1 + 1 ≤ w.heap.size + 1 + 1 + 1 := Nat.le_refl _
 simp only [World.size_alloc] at B1 B2 hg
 have T0 : x1.ownsRow (w.heap.size + 1 + 1 + 1) 9 1 (.slice (some ⟨g0, 0, none⟩) d.peaks.length d.peaks.length) d.peaks.length (d.peaks.flatMap sone) := bg.ownsRow _ 1 _ (by omega) (flat_len _ 1 sone_length _) (by unfold maxLen; omega)
 clear hx HE hgs
 obtain ⟨r0, f0⟩ := B0.rules
 obtain ⟨r2, f2⟩ := B2.rules
 go_upto_region 4 with fail
 have he_ := ext_setCells (W := w) (g := (w.heap.size + 1 + 1)) (by omega) [.slice (some ⟨g0, 0, none⟩) d.peaks.length d.peaks.length] 1 x1 he
 have C2 := B2.put 1 [.slice (some ⟨g0, 0, none⟩) d.peaks.length d.peaks.length] #[.int .i64 d.size, .slice (some ⟨g0, 0, none⟩) d.peaks.length d.peaks.length] (by simp) rfl
 have C1 := B1.farCells (g' := (w.heap.size + 1 + 1)) (by omega) [.slice (some ⟨g0, 0, none⟩) d.peaks.length d.peaks.length] 1
 have C0 := B0.farCells (g' := (w.heap.size + 1 + 1)) (by omega) [.slice (some ⟨g0, 0, none⟩) d.peaks.length d.peaks.length] 1
 replace T0 := row_far (B := w.heap.size + 1 + 1 + 1) (g := (w.heap.size + 1 + 1)) T0 (by omega) (Nat.le_refl _) [.slice (some ⟨g0, 0, none⟩) d.peaks.length d.peaks.length] 1
 clear r0 f0 r2 f2 B0 B1 B2 he
 change Code.wp _ _ _ _ (x1.setCells (w.heap.size + 1 + 1) 1 [.slice (some ⟨g0, 0, none⟩) d.peaks.length d.peaks.length])
 generalize x1.setCells (w.heap.size + 1 + 1) 1 [.slice (some ⟨g0, 0, none⟩) d.peaks.length d.peaks.length] = y1 at *
 have B0 := C0; have B1 := C1; have B2 := C2; have he := he_
 clear C0 C1 C2 he_
 obtain ⟨r0, f0⟩ := B0.rules
 obtain ⟨r2, f2⟩ := B2.rules
 obtain ⟨r1, f1⟩ := B1.rules
 go_wp2_with fail
 have he_ := ext_setCells (W := w) (g := w.heap.size + 1) (by omega) [.int .i64 d.size, .slice (some ⟨g0, 0, none⟩) d.peaks.length d.peaks.length] 0 y1 he
 have E1 := B1.put 0 [.int .i64 d.size, .slice (some ⟨g0, 0, none⟩) d.peaks.length d.peaks.length] #[.int .i64 d.size, .slice (some ⟨g0, 0, none⟩) d.peaks.length d.peaks.length] (by simp) rfl
 replace T0 := row_far (B := w.heap.size + 1 + 1 + 1) (g := w.heap.size + 1) T0 (by omega) (Nat.le_refl _) [.int .i64 d.size, .slice (some ⟨g0, 0, none⟩) d.peaks.length d.peaks.length] 0
 change bodyPost _ _ _ _ _ (y1.setCells (w.heap.size + 1) 0 [.int .i64 d.size, .slice (some ⟨g0, 0, none⟩) d.peaks.length d.peaks.length])
 clear r0 f0 r1 f1 r2 f2 B0 B1 B2 he
 generalize y1.setCells (w.heap.size + 1) 0 [.int .i64 d.size, .slice (some ⟨g0, 0, none⟩) d.peaks.length d.peaks.length] = z at *
 exact ret_row rfl rfl E1 Tryz.underlying54 rfl (by kernel_rfl) rfl ⟨_, _, rfl, ownsRow_base T0 (by omega), he_⟩
theorem toSeal_own (d : SealD) (A0 : Option Addr) (c0 : Nat) (A1 : Option Addr) (c1 : Nat) (w : World) (s0 : SlF AnyB sone 1 w A0 d.leaves.peaks c0) (s1 : SlF AnyB sone 1 w A1 d.taken.peaks c1) (hf : ∀ n ∈ d.lens, n ≤ 1048576) :
 Calls Tryz.prog 50 #[.agg #[.int .i64 d.leaves.size, .slice A0 d.leaves.peaks.length c0, .int .i64 d.taken.size, .slice A1 d.taken.peaks.length c1, .int .i64 d.head.number, .int .i64 d.head.size, .string d.head.root, .int .i64 d.head.taken, .string d.head.takenRoot]] w fun e w' => ∃ A D A' D', e = .returned (.agg #[.int .i64 d.leaves.size, .slice A d.leaves.peaks.length D, .int .i64 d.taken.size, .slice A' d.taken.peaks.length D', .int .i64 d.head.number, .int .i64 d.head.size, .string d.head.root, .int .i64 d.head.taken, .string d.head.takenRoot]) ∧ w'.ownsRow w.heap.size 9 1 (.slice A d.leaves.peaks.length D) d.leaves.peaks.length (d.leaves.peaks.flatMap sone) ∧ w'.ownsRow w.heap.size 9 1 (.slice A' d.taken.peaks.length D') d.taken.peaks.length (d.taken.peaks.flatMap sone) ∧ (∀ x, (Value.slice A d.leaves.peaks.length D).ownBlock = some x → (Value.slice A' d.taken.peaks.length D').ownBlock ≠ some x) ∧ Ext w w' := by
 have l_leaves : ∀ n ∈ d.leaves.lens, n ≤ 1048576 := fun n hn => hf n (by simp only [SealD.lens, List.mem_append]; simp [hn])
 have l_taken : ∀ n ∈ d.taken.lens, n ≤ 1048576 := fun n hn => hf n (by simp only [SealD.lens, List.mem_append]; simp [hn])
 have S0 := hU s0; clear s0
 have S1 := hU s1; clear s1
 clear hf
 go_enter Tryz.func50, Tryz.ntmps50
 go_wp2_with fail
 have HE : Ext w (((w.alloc (.cells #[.int .i64 d.leaves.size, .slice A0 d.leaves.peaks.length c0, .int .i64 d.taken.size, .slice A1 d.taken.peaks.length c1, .int .i64 d.head.number, .int .i64 d.head.size, .string d.head.root, .int .i64 d.head.taken, .string d.head.takenRoot] 41)).alloc (.cells #[.int .i64 0, .slice none 0 0, .int .i64 0, .slice none 0 0, .int .i64 0, .int .i64 0, .string ⟨#[]⟩, .int .i64 0, .string ⟨#[]⟩] 57)).alloc (.cells #[.int .i64 0, .slice none 0 0, .int .i64 0, .slice none 0 0, .int .i64 0, .int .i64 0, .string ⟨#[]⟩, .int .i64 0, .string ⟨#[]⟩] 57)) := Ext.new (Ext.new (Ext.new (Below.refl _ w) _) _) _
 refine (toRange_own d.leaves A0 c0 _ (S0.out.ext HE) l_leaves).mono ?_
 rintro e x0 ⟨G0, D0, rfl, t0, hx⟩
 have B0 := (((Blk.new _ _ _).alloc _).alloc _).ext hx
 have B1 := ((Blk.new _ _ _).alloc _).ext hx
 have B2 := (Blk.new _ _ _).ext hx
 have he := HE.next hx
 have hgs : w.heap.size + 1 + 1 + 1 ≤ w.heap.size + 1 + 1 + 1 := Nat.le_refl _
 simp only [World.size_alloc] at B1 B2
 have T0 : x0.ownsRow (w.heap.size + 1 + 1 + 1) 9 1 (.slice G0 d.leaves.peaks.length D0) d.leaves.peaks.length (d.leaves.peaks.flatMap sone) := ownsRow_base t0 (by (try simp only [World.size_alloc]); omega)
 clear hx HE hgs
 obtain ⟨r0, f0⟩ := B0.rules
 obtain ⟨r2, f2⟩ := B2.rules
 go_upto_region 3 with fail
 have he_ := ext_setCells (W := w) (g := (w.heap.size + 1 + 1)) (by omega) [.int .i64 d.leaves.size, .slice G0 d.leaves.peaks.length D0] 0 x0 he
 have C2 := B2.put 0 [.int .i64 d.leaves.size, .slice G0 d.leaves.peaks.length D0] #[.int .i64 d.leaves.size, .slice G0 d.leaves.peaks.length D0, .int .i64 0, .slice none 0 0, .int .i64 0, .int .i64 0, .string ⟨#[]⟩, .int .i64 0, .string ⟨#[]⟩] (by simp) rfl
 have C1 := B1.farCells (g' := (w.heap.size + 1 + 1)) (by omega) [.int .i64 d.leaves.size, .slice G0 d.leaves.peaks.length D0] 0
 have C0 := B0.farCells (g' := (w.heap.size + 1 + 1)) (by omega) [.int .i64 d.leaves.size, .slice G0 d.leaves.peaks.length D0] 0
 replace T0 := row_far (B := w.heap.size + 1 + 1 + 1) (g := (w.heap.size + 1 + 1)) T0 (by omega) (Nat.le_refl _) [.int .i64 d.leaves.size, .slice G0 d.leaves.peaks.length D0] 0
 clear r0 f0 r2 f2 B0 B1 B2 he
 change Code.wp _ _ _ _ (x0.setCells (w.heap.size + 1 + 1) 0 [.int .i64 d.leaves.size, .slice G0 d.leaves.peaks.length D0])
 generalize x0.setCells (w.heap.size + 1 + 1) 0 [.int .i64 d.leaves.size, .slice G0 d.leaves.peaks.length D0] = y0 at *
 have B0 := C0; have B1 := C1; have B2 := C2; have he := he_
 clear C0 C1 C2 he_
 obtain ⟨r0, f0⟩ := B0.rules
 obtain ⟨r2, f2⟩ := B2.rules
 go_wp2_with fail
 refine (toRange_own d.taken A1 c1 _ (S1.out.ext he) l_taken).mono ?_
 rintro e x1 ⟨G1, D1, rfl, t1, hx⟩
 have ap : ∀ x, (Value.slice G0 d.leaves.peaks.length D0).ownBlock = some x → (Value.slice G1 d.taken.peaks.length D1).ownBlock ≠ some x := fun x h3 h4 => by have h5 := (T0.lt x h3).2; have h6 := (t1.lt x h4).1; omega
 have hsz : w.heap.size + 1 + 1 + 1 ≤ y0.heap.size := B2.lt
 replace B0 := B0.ext hx; replace B1 := B1.ext hx; replace B2 := B2.ext hx; replace he := he.next hx
 replace T0 := ownsRow_ext T0 hx
 have T1 : x1.ownsRow (w.heap.size + 1 + 1 + 1) 9 1 (.slice G1 d.taken.peaks.length D1) d.taken.peaks.length (d.taken.peaks.flatMap sone) := ownsRow_base t1 (by (try simp only [World.size_alloc]); omega)
 clear hx hsz
 clear r0 f0 r2 f2
 obtain ⟨r0, f0⟩ := B0.rules
 obtain ⟨r2, f2⟩ := B2.rules
 go_upto_region 4 with fail
 have he_ := ext_setCells (W := w) (g := (w.heap.size + 1 + 1)) (by omega) [.int .i64 d.taken.size, .slice G1 d.taken.peaks.length D1] 2 x1 he
 have C2 := B2.put 2 [.int .i64 d.taken.size, .slice G1 d.taken.peaks.length D1] #[.int .i64 d.leaves.size, .slice G0 d.leaves.peaks.length D0, .int .i64 d.taken.size, .slice G1 d.taken.peaks.length D1, .int .i64 0, .int .i64 0, .string ⟨#[]⟩, .int .i64 0, .string ⟨#[]⟩] (by simp) rfl
 have C1 := B1.farCells (g' := (w.heap.size + 1 + 1)) (by omega) [.int .i64 d.taken.size, .slice G1 d.taken.peaks.length D1] 2
 have C0 := B0.farCells (g' := (w.heap.size + 1 + 1)) (by omega) [.int .i64 d.taken.size, .slice G1 d.taken.peaks.length D1] 2
 replace T0 := row_far (B := w.heap.size + 1 + 1 + 1) (g := (w.heap.size + 1 + 1)) T0 (by omega) (Nat.le_refl _) [.int .i64 d.taken.size, .slice G1 d.taken.peaks.length D1] 2
 replace T1 := row_far (B := w.heap.size + 1 + 1 + 1) (g := (w.heap.size + 1 + 1)) T1 (by omega) (Nat.le_refl _) [.int .i64 d.taken.size, .slice G1 d.taken.peaks.length D1] 2
 clear r0 f0 r2 f2 B0 B1 B2 he
 change Code.wp _ _ _ _ (x1.setCells (w.heap.size + 1 + 1) 2 [.int .i64 d.taken.size, .slice G1 d.taken.peaks.length D1])
 generalize x1.setCells (w.heap.size + 1 + 1) 2 [.int .i64 d.taken.size, .slice G1 d.taken.peaks.length D1] = y1 at *
 have B0 := C0; have B1 := C1; have B2 := C2; have he := he_
 clear C0 C1 C2 he_
 obtain ⟨r0, f0⟩ := B0.rules
 obtain ⟨r2, f2⟩ := B2.rules
 go_wp2_with fail
 refine (toHead_any d.head _).mono ?_
 rintro e x2 ⟨rfl, hx⟩
 have hsz : w.heap.size + 1 + 1 + 1 ≤ y1.heap.size := B2.lt
 replace B0 := B0.ext hx; replace B1 := B1.ext hx; replace B2 := B2.ext hx; replace he := he.next hx
 replace T0 := ownsRow_ext T0 hx
 replace T1 := ownsRow_ext T1 hx
 clear hx hsz
 clear r0 f0 r2 f2
 obtain ⟨r0, f0⟩ := B0.rules
 obtain ⟨r2, f2⟩ := B2.rules
 go_upto_region 5 with fail
 have he_ := ext_setCells (W := w) (g := (w.heap.size + 1 + 1)) (by omega) [.int .i64 d.head.number, .int .i64 d.head.size, .string d.head.root, .int .i64 d.head.taken, .string d.head.takenRoot] 4 x2 he
 have C2 := B2.put 4 [.int .i64 d.head.number, .int .i64 d.head.size, .string d.head.root, .int .i64 d.head.taken, .string d.head.takenRoot] #[.int .i64 d.leaves.size, .slice G0 d.leaves.peaks.length D0, .int .i64 d.taken.size, .slice G1 d.taken.peaks.length D1, .int .i64 d.head.number, .int .i64 d.head.size, .string d.head.root, .int .i64 d.head.taken, .string d.head.takenRoot] (by simp) rfl
 have C1 := B1.farCells (g' := (w.heap.size + 1 + 1)) (by omega) [.int .i64 d.head.number, .int .i64 d.head.size, .string d.head.root, .int .i64 d.head.taken, .string d.head.takenRoot] 4
 have C0 := B0.farCells (g' := (w.heap.size + 1 + 1)) (by omega) [.int .i64 d.head.number, .int .i64 d.head.size, .string d.head.root, .int .i64 d.head.taken, .string d.head.takenRoot] 4
 replace T0 := row_far (B := w.heap.size + 1 + 1 + 1) (g := (w.heap.size + 1 + 1)) T0 (by omega) (Nat.le_refl _) [.int .i64 d.head.number, .int .i64 d.head.size, .string d.head.root, .int .i64 d.head.taken, .string d.head.takenRoot] 4
 replace T1 := row_far (B := w.heap.size + 1 + 1 + 1) (g := (w.heap.size + 1 + 1)) T1 (by omega) (Nat.le_refl _) [.int .i64 d.head.number, .int .i64 d.head.size, .string d.head.root, .int .i64 d.head.taken, .string d.head.takenRoot] 4
 clear r0 f0 r2 f2 B0 B1 B2 he
 change Code.wp _ _ _ _ (x2.setCells (w.heap.size + 1 + 1) 4 [.int .i64 d.head.number, .int .i64 d.head.size, .string d.head.root, .int .i64 d.head.taken, .string d.head.takenRoot])
 generalize x2.setCells (w.heap.size + 1 + 1) 4 [.int .i64 d.head.number, .int .i64 d.head.size, .string d.head.root, .int .i64 d.head.taken, .string d.head.takenRoot] = y2 at *
 have B0 := C0; have B1 := C1; have B2 := C2; have he := he_
 clear C0 C1 C2 he_
 obtain ⟨r0, f0⟩ := B0.rules
 obtain ⟨r2, f2⟩ := B2.rules
 have ld := hU (B2.range)
 have st := hU (B1.there 0 9 (by decide))
 have O1 : Hid ((#[.int .i64 d.leaves.size, .slice G0 d.leaves.peaks.length D0, .int .i64 d.taken.size, .slice G1 d.taken.peaks.length D1, .int .i64 d.head.number, .int .i64 d.head.size, .string d.head.root, .int .i64 d.head.taken, .string d.head.takenRoot] : Array Value).all (·.oneCell') = true) := hU (all_oneCell_toArray (by simp [Value.oneCell']))
 clear r0 f0 r2 f2
 have he_ := ext_setCells (W := w) (g := w.heap.size + 1) (by omega) [.int .i64 d.leaves.size, .slice G0 d.leaves.peaks.length D0, .int .i64 d.taken.size, .slice G1 d.taken.peaks.length D1, .int .i64 d.head.number, .int .i64 d.head.size, .string d.head.root, .int .i64 d.head.taken, .string d.head.takenRoot] 0 y2 he
 have E1 := B1.put 0 [.int .i64 d.leaves.size, .slice G0 d.leaves.peaks.length D0, .int .i64 d.taken.size, .slice G1 d.taken.peaks.length D1, .int .i64 d.head.number, .int .i64 d.head.size, .string d.head.root, .int .i64 d.head.taken, .string d.head.takenRoot] #[.int .i64 d.leaves.size, .slice G0 d.leaves.peaks.length D0, .int .i64 d.taken.size, .slice G1 d.taken.peaks.length D1, .int .i64 d.head.number, .int .i64 d.head.size, .string d.head.root, .int .i64 d.head.taken, .string d.head.takenRoot] (by simp) rfl
 replace T0 := row_far (B := w.heap.size + 1 + 1 + 1) (g := w.heap.size + 1) T0 (by omega) (Nat.le_refl _) [.int .i64 d.leaves.size, .slice G0 d.leaves.peaks.length D0, .int .i64 d.taken.size, .slice G1 d.taken.peaks.length D1, .int .i64 d.head.number, .int .i64 d.head.size, .string d.head.root, .int .i64 d.head.taken, .string d.head.takenRoot] 0
 replace T1 := row_far (B := w.heap.size + 1 + 1 + 1) (g := w.heap.size + 1) T1 (by omega) (Nat.le_refl _) [.int .i64 d.leaves.size, .slice G0 d.leaves.peaks.length D0, .int .i64 d.taken.size, .slice G1 d.taken.peaks.length D1, .int .i64 d.head.number, .int .i64 d.head.size, .string d.head.root, .int .i64 d.head.taken, .string d.head.takenRoot] 0
 clear B0 B1 B2 he
 go_wp2_with (first | (refine wpList_load_mid rfl 57 _ rfl (w.heap.size + 1 + 1) 0 rfl [.int .i64 d.leaves.size, .slice G0 d.leaves.peaks.length D0, .int .i64 d.taken.size, .slice G1 d.taken.peaks.length D1, .int .i64 d.head.number, .int .i64 d.head.size, .string d.head.root, .int .i64 d.head.taken, .string d.head.takenRoot] _ ld.out Tryz.underlying57 rfl (by kernel_rfl) ?_) | (refine wpList_store_mid rfl 57 _ _ rfl (w.heap.size + 1) 0 #[.int .i64 d.leaves.size, .slice G0 d.leaves.peaks.length D0, .int .i64 d.taken.size, .slice G1 d.taken.peaks.length D1, .int .i64 d.head.number, .int .i64 d.head.size, .string d.head.root, .int .i64 d.head.taken, .string d.head.takenRoot] rfl rfl st.out (by kernel_rfl) O1.out ?_; change wpList _ _ _ _ _ (y2.setCells (w.heap.size + 1) 0 [.int .i64 d.leaves.size, .slice G0 d.leaves.peaks.length D0, .int .i64 d.taken.size, .slice G1 d.taken.peaks.length D1, .int .i64 d.head.number, .int .i64 d.head.size, .string d.head.root, .int .i64 d.head.taken, .string d.head.takenRoot]); clear ld st O1; generalize y2.setCells (w.heap.size + 1) 0 [.int .i64 d.leaves.size, .slice G0 d.leaves.peaks.length D0, .int .i64 d.taken.size, .slice G1 d.taken.peaks.length D1, .int .i64 d.head.number, .int .i64 d.head.size, .string d.head.root, .int .i64 d.head.taken, .string d.head.takenRoot] = z at *))
 exact ret_row rfl rfl E1 Tryz.underlying57 rfl (by kernel_rfl) rfl ⟨_, _, _, _, rfl, ownsRow_base T0 (by omega), ownsRow_base T1 (by omega), ap, he_⟩
theorem toBroker_own (d : BrokerD) (A0 : Option Addr) (c0 : Nat) (A1 : Option Addr) (c1 : Nat) (A2 : Option Addr) (c2 : Nat) (A3 : Option Addr) (c3 : Nat) (A4 : Option Addr) (c4 : Nat) (w : World) (s0 : SlF AnyB EntryD.cells 5 w A0 d.log.entries c0) (s1 : SlF AnyB ReceiptD.cells 3 w A1 d.receipts c1) (s2 : SlF AnyB HeadD.cells 5 w A2 d.heads c2) (s3 : SlF AnyB sone 1 w A3 d.sealed.leaves.peaks c3) (s4 : SlF AnyB sone 1 w A4 d.sealed.taken.peaks c4) (hf : ∀ n ∈ d.lens, n ≤ 1048576) :
 Calls Tryz.prog 16 #[.agg #[.int .i64 d.width, .slice A0 d.log.entries.length c0, .slice A1 d.receipts.length c1, .slice A2 d.heads.length c2, .int .i64 d.sealed.leaves.size, .slice A3 d.sealed.leaves.peaks.length c3, .int .i64 d.sealed.taken.size, .slice A4 d.sealed.taken.peaks.length c4, .int .i64 d.sealed.head.number, .int .i64 d.sealed.head.size, .string d.sealed.head.root, .int .i64 d.sealed.head.taken, .string d.sealed.head.takenRoot]] w fun e w' => ∃ G0 D0 G1 D1 G2 D2 G3 D3 G4 D4, e = .returned (.agg (brkV d G0 D0 G1 D1 G2 D2 G3 D3 G4 D4).toArray) ∧ BRows w.heap.size w' d (.slice G0 d.log.entries.length D0) (.slice G1 d.receipts.length D1) (.slice G2 d.heads.length D2) (.slice G3 d.sealed.leaves.peaks.length D3) (.slice G4 d.sealed.taken.peaks.length D4) ∧ (∀ x, (Value.slice G3 d.sealed.leaves.peaks.length D3).ownBlock = some x → (Value.slice G4 d.sealed.taken.peaks.length D4).ownBlock ≠ some x) ∧ Ext w w' := by
 have l_log : ∀ n ∈ d.log.lens, n ≤ 1048576 := fun n hn => hf n (by simp only [BrokerD.lens, List.mem_append]; simp [hn])
 have l_receipts : d.receipts.length ≤ 1048576 := hf _ (by simp [BrokerD.lens])
 have l_heads : d.heads.length ≤ 1048576 := hf _ (by simp [BrokerD.lens])
 have l_sealed : ∀ n ∈ d.sealed.lens, n ≤ 1048576 := fun n hn => hf n (by simp only [BrokerD.lens, List.mem_append]; simp [hn])
 have S0 := hU s0; clear s0
 have S1 := hU s1; clear s1
 have S2 := hU s2; clear s2
 have S3 := hU s3; clear s3
 have S4 := hU s4; clear s4
 clear hf
 go_enter Tryz.func16, Tryz.ntmps16
 go_wp2_with fail
 have HE : Ext w (((w.alloc (.cells #[.int .i64 d.width, .slice A0 d.log.entries.length c0, .slice A1 d.receipts.length c1, .slice A2 d.heads.length c2, .int .i64 d.sealed.leaves.size, .slice A3 d.sealed.leaves.peaks.length c3, .int .i64 d.sealed.taken.size, .slice A4 d.sealed.taken.peaks.length c4, .int .i64 d.sealed.head.number, .int .i64 d.sealed.head.size, .string d.sealed.head.root, .int .i64 d.sealed.head.taken, .string d.sealed.head.takenRoot] 43)).alloc (.cells #[.int .i64 0, .slice none 0 0, .slice none 0 0, .slice none 0 0, .int .i64 0, .slice none 0 0, .int .i64 0, .slice none 0 0, .int .i64 0, .int .i64 0, .string ⟨#[]⟩, .int .i64 0, .string ⟨#[]⟩] 59)).alloc (.cells #[.int .i64 d.width, .slice none 0 0, .slice none 0 0, .slice none 0 0, .int .i64 0, .slice none 0 0, .int .i64 0, .slice none 0 0, .int .i64 0, .int .i64 0, .string ⟨#[]⟩, .int .i64 0, .string ⟨#[]⟩] 59)) := Ext.new (Ext.new (Ext.new (Below.refl _ w) _) _) _
 refine (toLog_own d.log A0 c0 _ (S0.out.ext HE) l_log).mono ?_
 rintro e x1 ⟨G0, D0, rfl, t0, hx⟩
 have B0 := (((Blk.new _ _ _).alloc _).alloc _).ext hx
 have B1 := ((Blk.new _ _ _).alloc _).ext hx
 have B2 := (Blk.new _ _ _).ext hx
 have he := HE.next hx
 have hgs : w.heap.size + 1 + 1 + 1 ≤ w.heap.size + 1 + 1 + 1 := Nat.le_refl _
 simp only [World.size_alloc] at B1 B2
 have T0 : x1.ownsRow (w.heap.size + 1 + 1 + 1) 46 5 (.slice G0 d.log.entries.length D0) d.log.entries.length (d.log.entries.flatMap EntryD.cells) := ownsRow_base t0 (by (try simp only [World.size_alloc]); omega)
 clear hx HE hgs
 obtain ⟨r0, f0⟩ := B0.rules
 obtain ⟨r2, f2⟩ := B2.rules
 go_upto_region 4 with fail
 have he_ := ext_setCells (W := w) (g := (w.heap.size + 1 + 1)) (by omega) [.slice G0 d.log.entries.length D0] 1 x1 he
 have C2 := B2.put 1 [.slice G0 d.log.entries.length D0] #[.int .i64 d.width, .slice G0 d.log.entries.length D0, .slice none 0 0, .slice none 0 0, .int .i64 0, .slice none 0 0, .int .i64 0, .slice none 0 0, .int .i64 0, .int .i64 0, .string ⟨#[]⟩, .int .i64 0, .string ⟨#[]⟩] (by simp) rfl
 have C1 := B1.farCells (g' := (w.heap.size + 1 + 1)) (by omega) [.slice G0 d.log.entries.length D0] 1
 have C0 := B0.farCells (g' := (w.heap.size + 1 + 1)) (by omega) [.slice G0 d.log.entries.length D0] 1
 replace T0 := row_far (B := w.heap.size + 1 + 1 + 1) (g := (w.heap.size + 1 + 1)) T0 (by omega) (Nat.le_refl _) [.slice G0 d.log.entries.length D0] 1
 clear r0 f0 r2 f2 B0 B1 B2 he
 change Code.wp _ _ _ _ (x1.setCells (w.heap.size + 1 + 1) 1 [.slice G0 d.log.entries.length D0])
 generalize x1.setCells (w.heap.size + 1 + 1) 1 [.slice G0 d.log.entries.length D0] = y1 at *
 have B0 := C0; have B1 := C1; have B2 := C2; have he := he_
 clear C0 C1 C2 he_
 obtain ⟨r0, f0⟩ := B0.rules
 obtain ⟨r2, f2⟩ := B2.rules
 go_wp2_with fail
 refine (toReceiptS_any A1 c1 d.receipts _ (S1.out.ext he).reads l_receipts).mono ?_
 rintro e x2 ⟨g1, rfl, hg, bg, hx⟩
 have hsz : w.heap.size + 1 + 1 + 1 ≤ y1.heap.size := B2.lt
 replace B0 := B0.ext hx; replace B1 := B1.ext hx; replace B2 := B2.ext hx; replace he := he.next hx
 replace T0 := ownsRow_ext T0 hx
 have T1 : x2.ownsRow (w.heap.size + 1 + 1 + 1) 77 3 (.slice (some ⟨g1, 0, none⟩) d.receipts.length d.receipts.length) d.receipts.length (d.receipts.flatMap ReceiptD.cells) := bg.ownsRow _ 3 _ (by omega) (flat_len _ 3 ReceiptD.cells_length _) (by unfold maxLen; omega)
 clear hx hsz
 clear r0 f0 r2 f2
 obtain ⟨r0, f0⟩ := B0.rules
 obtain ⟨r2, f2⟩ := B2.rules
 go_upto_region 5 with fail
 have he_ := ext_setCells (W := w) (g := (w.heap.size + 1 + 1)) (by omega) [.slice (some ⟨g1, 0, none⟩) d.receipts.length d.receipts.length] 2 x2 he
 have C2 := B2.put 2 [.slice (some ⟨g1, 0, none⟩) d.receipts.length d.receipts.length] #[.int .i64 d.width, .slice G0 d.log.entries.length D0, .slice (some ⟨g1, 0, none⟩) d.receipts.length d.receipts.length, .slice none 0 0, .int .i64 0, .slice none 0 0, .int .i64 0, .slice none 0 0, .int .i64 0, .int .i64 0, .string ⟨#[]⟩, .int .i64 0, .string ⟨#[]⟩] (by simp) rfl
 have C1 := B1.farCells (g' := (w.heap.size + 1 + 1)) (by omega) [.slice (some ⟨g1, 0, none⟩) d.receipts.length d.receipts.length] 2
 have C0 := B0.farCells (g' := (w.heap.size + 1 + 1)) (by omega) [.slice (some ⟨g1, 0, none⟩) d.receipts.length d.receipts.length] 2
 replace T0 := row_far (B := w.heap.size + 1 + 1 + 1) (g := (w.heap.size + 1 + 1)) T0 (by omega) (Nat.le_refl _) [.slice (some ⟨g1, 0, none⟩) d.receipts.length d.receipts.length] 2
 replace T1 := row_far (B := w.heap.size + 1 + 1 + 1) (g := (w.heap.size + 1 + 1)) T1 (by omega) (Nat.le_refl _) [.slice (some ⟨g1, 0, none⟩) d.receipts.length d.receipts.length] 2
 clear r0 f0 r2 f2 B0 B1 B2 he
 change Code.wp _ _ _ _ (x2.setCells (w.heap.size + 1 + 1) 2 [.slice (some ⟨g1, 0, none⟩) d.receipts.length d.receipts.length])
 generalize x2.setCells (w.heap.size + 1 + 1) 2 [.slice (some ⟨g1, 0, none⟩) d.receipts.length d.receipts.length] = y2 at *
 have B0 := C0; have B1 := C1; have B2 := C2; have he := he_
 clear C0 C1 C2 he_
 obtain ⟨r0, f0⟩ := B0.rules
 obtain ⟨r2, f2⟩ := B2.rules
 go_wp2_with fail
 refine (toHeadS_any A2 c2 d.heads _ (S2.out.ext he).reads l_heads).mono ?_
 rintro e x3 ⟨g2, rfl, hg, bg, hx⟩
 have hsz : w.heap.size + 1 + 1 + 1 ≤ y2.heap.size := B2.lt
 replace B0 := B0.ext hx; replace B1 := B1.ext hx; replace B2 := B2.ext hx; replace he := he.next hx
 replace T0 := ownsRow_ext T0 hx
 replace T1 := ownsRow_ext T1 hx
 have T2 : x3.ownsRow (w.heap.size + 1 + 1 + 1) 55 5 (.slice (some ⟨g2, 0, none⟩) d.heads.length d.heads.length) d.heads.length (d.heads.flatMap HeadD.cells) := bg.ownsRow _ 5 _ (by omega) (flat_len _ 5 HeadD.cells_length _) (by unfold maxLen; omega)
 clear hx hsz
 clear r0 f0 r2 f2
 obtain ⟨r0, f0⟩ := B0.rules
 obtain ⟨r2, f2⟩ := B2.rules
 go_upto_region 6 with fail
 have he_ := ext_setCells (W := w) (g := (w.heap.size + 1 + 1)) (by omega) [.slice (some ⟨g2, 0, none⟩) d.heads.length d.heads.length] 3 x3 he
 have C2 := B2.put 3 [.slice (some ⟨g2, 0, none⟩) d.heads.length d.heads.length] #[.int .i64 d.width, .slice G0 d.log.entries.length D0, .slice (some ⟨g1, 0, none⟩) d.receipts.length d.receipts.length, .slice (some ⟨g2, 0, none⟩) d.heads.length d.heads.length, .int .i64 0, .slice none 0 0, .int .i64 0, .slice none 0 0, .int .i64 0, .int .i64 0, .string ⟨#[]⟩, .int .i64 0, .string ⟨#[]⟩] (by simp) rfl
 have C1 := B1.farCells (g' := (w.heap.size + 1 + 1)) (by omega) [.slice (some ⟨g2, 0, none⟩) d.heads.length d.heads.length] 3
 have C0 := B0.farCells (g' := (w.heap.size + 1 + 1)) (by omega) [.slice (some ⟨g2, 0, none⟩) d.heads.length d.heads.length] 3
 replace T0 := row_far (B := w.heap.size + 1 + 1 + 1) (g := (w.heap.size + 1 + 1)) T0 (by omega) (Nat.le_refl _) [.slice (some ⟨g2, 0, none⟩) d.heads.length d.heads.length] 3
 replace T1 := row_far (B := w.heap.size + 1 + 1 + 1) (g := (w.heap.size + 1 + 1)) T1 (by omega) (Nat.le_refl _) [.slice (some ⟨g2, 0, none⟩) d.heads.length d.heads.length] 3
 replace T2 := row_far (B := w.heap.size + 1 + 1 + 1) (g := (w.heap.size + 1 + 1)) T2 (by omega) (Nat.le_refl _) [.slice (some ⟨g2, 0, none⟩) d.heads.length d.heads.length] 3
 clear r0 f0 r2 f2 B0 B1 B2 he
 change Code.wp _ _ _ _ (x3.setCells (w.heap.size + 1 + 1) 3 [.slice (some ⟨g2, 0, none⟩) d.heads.length d.heads.length])
 generalize x3.setCells (w.heap.size + 1 + 1) 3 [.slice (some ⟨g2, 0, none⟩) d.heads.length d.heads.length] = y3 at *
 have B0 := C0; have B1 := C1; have B2 := C2; have he := he_
 clear C0 C1 C2 he_
 obtain ⟨r0, f0⟩ := B0.rules
 obtain ⟨r2, f2⟩ := B2.rules
 go_wp2_with fail
 refine (toSeal_own d.sealed A3 c3 A4 c4 _ (S3.out.ext he) (S4.out.ext he) l_sealed).mono ?_
 rintro e x4 ⟨G3, D3, G4, D4, rfl, t3, t4, ap, hx⟩
 have hsz : w.heap.size + 1 + 1 + 1 ≤ y3.heap.size := B2.lt
 replace B0 := B0.ext hx; replace B1 := B1.ext hx; replace B2 := B2.ext hx; replace he := he.next hx
 replace T0 := ownsRow_ext T0 hx
 replace T1 := ownsRow_ext T1 hx
 replace T2 := ownsRow_ext T2 hx
 have T3 : x4.ownsRow (w.heap.size + 1 + 1 + 1) 9 1 (.slice G3 d.sealed.leaves.peaks.length D3) d.sealed.leaves.peaks.length (d.sealed.leaves.peaks.flatMap sone) := ownsRow_base t3 (by (try simp only [World.size_alloc]); omega)
 have T4 : x4.ownsRow (w.heap.size + 1 + 1 + 1) 9 1 (.slice G4 d.sealed.taken.peaks.length D4) d.sealed.taken.peaks.length (d.sealed.taken.peaks.flatMap sone) := ownsRow_base t4 (by (try simp only [World.size_alloc]); omega)
 clear hx hsz
 clear r0 f0 r2 f2
 obtain ⟨r0, f0⟩ := B0.rules
 obtain ⟨r2, f2⟩ := B2.rules
 go_upto_region 7 with fail
 have he_ := ext_setCells (W := w) (g := (w.heap.size + 1 + 1)) (by omega) [.int .i64 d.sealed.leaves.size, .slice G3 d.sealed.leaves.peaks.length D3, .int .i64 d.sealed.taken.size, .slice G4 d.sealed.taken.peaks.length D4, .int .i64 d.sealed.head.number, .int .i64 d.sealed.head.size, .string d.sealed.head.root, .int .i64 d.sealed.head.taken, .string d.sealed.head.takenRoot] 4 x4 he
 have C2 := B2.put 4 [.int .i64 d.sealed.leaves.size, .slice G3 d.sealed.leaves.peaks.length D3, .int .i64 d.sealed.taken.size, .slice G4 d.sealed.taken.peaks.length D4, .int .i64 d.sealed.head.number, .int .i64 d.sealed.head.size, .string d.sealed.head.root, .int .i64 d.sealed.head.taken, .string d.sealed.head.takenRoot] #[.int .i64 d.width, .slice G0 d.log.entries.length D0, .slice (some ⟨g1, 0, none⟩) d.receipts.length d.receipts.length, .slice (some ⟨g2, 0, none⟩) d.heads.length d.heads.length, .int .i64 d.sealed.leaves.size, .slice G3 d.sealed.leaves.peaks.length D3, .int .i64 d.sealed.taken.size, .slice G4 d.sealed.taken.peaks.length D4, .int .i64 d.sealed.head.number, .int .i64 d.sealed.head.size, .string d.sealed.head.root, .int .i64 d.sealed.head.taken, .string d.sealed.head.takenRoot] (by simp) rfl
 have C1 := B1.farCells (g' := (w.heap.size + 1 + 1)) (by omega) [.int .i64 d.sealed.leaves.size, .slice G3 d.sealed.leaves.peaks.length D3, .int .i64 d.sealed.taken.size, .slice G4 d.sealed.taken.peaks.length D4, .int .i64 d.sealed.head.number, .int .i64 d.sealed.head.size, .string d.sealed.head.root, .int .i64 d.sealed.head.taken, .string d.sealed.head.takenRoot] 4
 have C0 := B0.farCells (g' := (w.heap.size + 1 + 1)) (by omega) [.int .i64 d.sealed.leaves.size, .slice G3 d.sealed.leaves.peaks.length D3, .int .i64 d.sealed.taken.size, .slice G4 d.sealed.taken.peaks.length D4, .int .i64 d.sealed.head.number, .int .i64 d.sealed.head.size, .string d.sealed.head.root, .int .i64 d.sealed.head.taken, .string d.sealed.head.takenRoot] 4
 replace T0 := row_far (B := w.heap.size + 1 + 1 + 1) (g := (w.heap.size + 1 + 1)) T0 (by omega) (Nat.le_refl _) [.int .i64 d.sealed.leaves.size, .slice G3 d.sealed.leaves.peaks.length D3, .int .i64 d.sealed.taken.size, .slice G4 d.sealed.taken.peaks.length D4, .int .i64 d.sealed.head.number, .int .i64 d.sealed.head.size, .string d.sealed.head.root, .int .i64 d.sealed.head.taken, .string d.sealed.head.takenRoot] 4
 replace T1 := row_far (B := w.heap.size + 1 + 1 + 1) (g := (w.heap.size + 1 + 1)) T1 (by omega) (Nat.le_refl _) [.int .i64 d.sealed.leaves.size, .slice G3 d.sealed.leaves.peaks.length D3, .int .i64 d.sealed.taken.size, .slice G4 d.sealed.taken.peaks.length D4, .int .i64 d.sealed.head.number, .int .i64 d.sealed.head.size, .string d.sealed.head.root, .int .i64 d.sealed.head.taken, .string d.sealed.head.takenRoot] 4
 replace T2 := row_far (B := w.heap.size + 1 + 1 + 1) (g := (w.heap.size + 1 + 1)) T2 (by omega) (Nat.le_refl _) [.int .i64 d.sealed.leaves.size, .slice G3 d.sealed.leaves.peaks.length D3, .int .i64 d.sealed.taken.size, .slice G4 d.sealed.taken.peaks.length D4, .int .i64 d.sealed.head.number, .int .i64 d.sealed.head.size, .string d.sealed.head.root, .int .i64 d.sealed.head.taken, .string d.sealed.head.takenRoot] 4
 replace T3 := row_far (B := w.heap.size + 1 + 1 + 1) (g := (w.heap.size + 1 + 1)) T3 (by omega) (Nat.le_refl _) [.int .i64 d.sealed.leaves.size, .slice G3 d.sealed.leaves.peaks.length D3, .int .i64 d.sealed.taken.size, .slice G4 d.sealed.taken.peaks.length D4, .int .i64 d.sealed.head.number, .int .i64 d.sealed.head.size, .string d.sealed.head.root, .int .i64 d.sealed.head.taken, .string d.sealed.head.takenRoot] 4
 replace T4 := row_far (B := w.heap.size + 1 + 1 + 1) (g := (w.heap.size + 1 + 1)) T4 (by omega) (Nat.le_refl _) [.int .i64 d.sealed.leaves.size, .slice G3 d.sealed.leaves.peaks.length D3, .int .i64 d.sealed.taken.size, .slice G4 d.sealed.taken.peaks.length D4, .int .i64 d.sealed.head.number, .int .i64 d.sealed.head.size, .string d.sealed.head.root, .int .i64 d.sealed.head.taken, .string d.sealed.head.takenRoot] 4
 clear r0 f0 r2 f2 B0 B1 B2 he
 change Code.wp _ _ _ _ (x4.setCells (w.heap.size + 1 + 1) 4 [.int .i64 d.sealed.leaves.size, .slice G3 d.sealed.leaves.peaks.length D3, .int .i64 d.sealed.taken.size, .slice G4 d.sealed.taken.peaks.length D4, .int .i64 d.sealed.head.number, .int .i64 d.sealed.head.size, .string d.sealed.head.root, .int .i64 d.sealed.head.taken, .string d.sealed.head.takenRoot])
 generalize x4.setCells (w.heap.size + 1 + 1) 4 [.int .i64 d.sealed.leaves.size, .slice G3 d.sealed.leaves.peaks.length D3, .int .i64 d.sealed.taken.size, .slice G4 d.sealed.taken.peaks.length D4, .int .i64 d.sealed.head.number, .int .i64 d.sealed.head.size, .string d.sealed.head.root, .int .i64 d.sealed.head.taken, .string d.sealed.head.takenRoot] = y4 at *
 have B0 := C0; have B1 := C1; have B2 := C2; have he := he_
 clear C0 C1 C2 he_
 obtain ⟨r0, f0⟩ := B0.rules
 obtain ⟨r2, f2⟩ := B2.rules
 have ld := hU (B2.range)
 have st := hU (B1.there 0 13 (by decide))
 have O1 : Hid ((#[.int .i64 d.width, .slice G0 d.log.entries.length D0, .slice (some ⟨g1, 0, none⟩) d.receipts.length d.receipts.length, .slice (some ⟨g2, 0, none⟩) d.heads.length d.heads.length, .int .i64 d.sealed.leaves.size, .slice G3 d.sealed.leaves.peaks.length D3, .int .i64 d.sealed.taken.size, .slice G4 d.sealed.taken.peaks.length D4, .int .i64 d.sealed.head.number, .int .i64 d.sealed.head.size, .string d.sealed.head.root, .int .i64 d.sealed.head.taken, .string d.sealed.head.takenRoot] : Array Value).all (·.oneCell') = true) := hU (all_oneCell_toArray (by simp [Value.oneCell']))
 clear r0 f0 r2 f2
 have he_ := ext_setCells (W := w) (g := w.heap.size + 1) (by omega) [.int .i64 d.width, .slice G0 d.log.entries.length D0, .slice (some ⟨g1, 0, none⟩) d.receipts.length d.receipts.length, .slice (some ⟨g2, 0, none⟩) d.heads.length d.heads.length, .int .i64 d.sealed.leaves.size, .slice G3 d.sealed.leaves.peaks.length D3, .int .i64 d.sealed.taken.size, .slice G4 d.sealed.taken.peaks.length D4, .int .i64 d.sealed.head.number, .int .i64 d.sealed.head.size, .string d.sealed.head.root, .int .i64 d.sealed.head.taken, .string d.sealed.head.takenRoot] 0 y4 he
 have E1 := B1.put 0 [.int .i64 d.width, .slice G0 d.log.entries.length D0, .slice (some ⟨g1, 0, none⟩) d.receipts.length d.receipts.length, .slice (some ⟨g2, 0, none⟩) d.heads.length d.heads.length, .int .i64 d.sealed.leaves.size, .slice G3 d.sealed.leaves.peaks.length D3, .int .i64 d.sealed.taken.size, .slice G4 d.sealed.taken.peaks.length D4, .int .i64 d.sealed.head.number, .int .i64 d.sealed.head.size, .string d.sealed.head.root, .int .i64 d.sealed.head.taken, .string d.sealed.head.takenRoot] #[.int .i64 d.width, .slice G0 d.log.entries.length D0, .slice (some ⟨g1, 0, none⟩) d.receipts.length d.receipts.length, .slice (some ⟨g2, 0, none⟩) d.heads.length d.heads.length, .int .i64 d.sealed.leaves.size, .slice G3 d.sealed.leaves.peaks.length D3, .int .i64 d.sealed.taken.size, .slice G4 d.sealed.taken.peaks.length D4, .int .i64 d.sealed.head.number, .int .i64 d.sealed.head.size, .string d.sealed.head.root, .int .i64 d.sealed.head.taken, .string d.sealed.head.takenRoot] (by simp) rfl
 replace T0 := row_far (B := w.heap.size + 1 + 1 + 1) (g := w.heap.size + 1) T0 (by omega) (Nat.le_refl _) [.int .i64 d.width, .slice G0 d.log.entries.length D0, .slice (some ⟨g1, 0, none⟩) d.receipts.length d.receipts.length, .slice (some ⟨g2, 0, none⟩) d.heads.length d.heads.length, .int .i64 d.sealed.leaves.size, .slice G3 d.sealed.leaves.peaks.length D3, .int .i64 d.sealed.taken.size, .slice G4 d.sealed.taken.peaks.length D4, .int .i64 d.sealed.head.number, .int .i64 d.sealed.head.size, .string d.sealed.head.root, .int .i64 d.sealed.head.taken, .string d.sealed.head.takenRoot] 0
 replace T1 := row_far (B := w.heap.size + 1 + 1 + 1) (g := w.heap.size + 1) T1 (by omega) (Nat.le_refl _) [.int .i64 d.width, .slice G0 d.log.entries.length D0, .slice (some ⟨g1, 0, none⟩) d.receipts.length d.receipts.length, .slice (some ⟨g2, 0, none⟩) d.heads.length d.heads.length, .int .i64 d.sealed.leaves.size, .slice G3 d.sealed.leaves.peaks.length D3, .int .i64 d.sealed.taken.size, .slice G4 d.sealed.taken.peaks.length D4, .int .i64 d.sealed.head.number, .int .i64 d.sealed.head.size, .string d.sealed.head.root, .int .i64 d.sealed.head.taken, .string d.sealed.head.takenRoot] 0
 replace T2 := row_far (B := w.heap.size + 1 + 1 + 1) (g := w.heap.size + 1) T2 (by omega) (Nat.le_refl _) [.int .i64 d.width, .slice G0 d.log.entries.length D0, .slice (some ⟨g1, 0, none⟩) d.receipts.length d.receipts.length, .slice (some ⟨g2, 0, none⟩) d.heads.length d.heads.length, .int .i64 d.sealed.leaves.size, .slice G3 d.sealed.leaves.peaks.length D3, .int .i64 d.sealed.taken.size, .slice G4 d.sealed.taken.peaks.length D4, .int .i64 d.sealed.head.number, .int .i64 d.sealed.head.size, .string d.sealed.head.root, .int .i64 d.sealed.head.taken, .string d.sealed.head.takenRoot] 0
 replace T3 := row_far (B := w.heap.size + 1 + 1 + 1) (g := w.heap.size + 1) T3 (by omega) (Nat.le_refl _) [.int .i64 d.width, .slice G0 d.log.entries.length D0, .slice (some ⟨g1, 0, none⟩) d.receipts.length d.receipts.length, .slice (some ⟨g2, 0, none⟩) d.heads.length d.heads.length, .int .i64 d.sealed.leaves.size, .slice G3 d.sealed.leaves.peaks.length D3, .int .i64 d.sealed.taken.size, .slice G4 d.sealed.taken.peaks.length D4, .int .i64 d.sealed.head.number, .int .i64 d.sealed.head.size, .string d.sealed.head.root, .int .i64 d.sealed.head.taken, .string d.sealed.head.takenRoot] 0
 replace T4 := row_far (B := w.heap.size + 1 + 1 + 1) (g := w.heap.size + 1) T4 (by omega) (Nat.le_refl _) [.int .i64 d.width, .slice G0 d.log.entries.length D0, .slice (some ⟨g1, 0, none⟩) d.receipts.length d.receipts.length, .slice (some ⟨g2, 0, none⟩) d.heads.length d.heads.length, .int .i64 d.sealed.leaves.size, .slice G3 d.sealed.leaves.peaks.length D3, .int .i64 d.sealed.taken.size, .slice G4 d.sealed.taken.peaks.length D4, .int .i64 d.sealed.head.number, .int .i64 d.sealed.head.size, .string d.sealed.head.root, .int .i64 d.sealed.head.taken, .string d.sealed.head.takenRoot] 0
 clear B0 B1 B2 he
 go_wp2_with (first | (refine wpList_load_mid rfl 59 _ rfl (w.heap.size + 1 + 1) 0 rfl [.int .i64 d.width, .slice G0 d.log.entries.length D0, .slice (some ⟨g1, 0, none⟩) d.receipts.length d.receipts.length, .slice (some ⟨g2, 0, none⟩) d.heads.length d.heads.length, .int .i64 d.sealed.leaves.size, .slice G3 d.sealed.leaves.peaks.length D3, .int .i64 d.sealed.taken.size, .slice G4 d.sealed.taken.peaks.length D4, .int .i64 d.sealed.head.number, .int .i64 d.sealed.head.size, .string d.sealed.head.root, .int .i64 d.sealed.head.taken, .string d.sealed.head.takenRoot] _ ld.out Tryz.underlying59 rfl (by kernel_rfl) ?_) | (refine wpList_store_mid rfl 59 _ _ rfl (w.heap.size + 1) 0 #[.int .i64 d.width, .slice G0 d.log.entries.length D0, .slice (some ⟨g1, 0, none⟩) d.receipts.length d.receipts.length, .slice (some ⟨g2, 0, none⟩) d.heads.length d.heads.length, .int .i64 d.sealed.leaves.size, .slice G3 d.sealed.leaves.peaks.length D3, .int .i64 d.sealed.taken.size, .slice G4 d.sealed.taken.peaks.length D4, .int .i64 d.sealed.head.number, .int .i64 d.sealed.head.size, .string d.sealed.head.root, .int .i64 d.sealed.head.taken, .string d.sealed.head.takenRoot] rfl rfl st.out (by kernel_rfl) O1.out ?_; change wpList _ _ _ _ _ (y4.setCells (w.heap.size + 1) 0 [.int .i64 d.width, .slice G0 d.log.entries.length D0, .slice (some ⟨g1, 0, none⟩) d.receipts.length d.receipts.length, .slice (some ⟨g2, 0, none⟩) d.heads.length d.heads.length, .int .i64 d.sealed.leaves.size, .slice G3 d.sealed.leaves.peaks.length D3, .int .i64 d.sealed.taken.size, .slice G4 d.sealed.taken.peaks.length D4, .int .i64 d.sealed.head.number, .int .i64 d.sealed.head.size, .string d.sealed.head.root, .int .i64 d.sealed.head.taken, .string d.sealed.head.takenRoot]); clear ld st O1; generalize y4.setCells (w.heap.size + 1) 0 [.int .i64 d.width, .slice G0 d.log.entries.length D0, .slice (some ⟨g1, 0, none⟩) d.receipts.length d.receipts.length, .slice (some ⟨g2, 0, none⟩) d.heads.length d.heads.length, .int .i64 d.sealed.leaves.size, .slice G3 d.sealed.leaves.peaks.length D3, .int .i64 d.sealed.taken.size, .slice G4 d.sealed.taken.peaks.length D4, .int .i64 d.sealed.head.number, .int .i64 d.sealed.head.size, .string d.sealed.head.root, .int .i64 d.sealed.head.taken, .string d.sealed.head.takenRoot] = z at *))
 exact ret_row rfl rfl E1 Tryz.underlying59 rfl (by kernel_rfl) rfl ⟨_, _, _, _, _, _, _, _, _, _, rfl, ⟨ownsRow_base T0 (by omega), ownsRow_base T1 (by omega), ownsRow_base T2 (by omega), ownsRow_base T3 (by omega), ownsRow_base T4 (by omega)⟩, ap, he_⟩
end Go.Proofs.YtlgdghpnfclgpaaGreat
