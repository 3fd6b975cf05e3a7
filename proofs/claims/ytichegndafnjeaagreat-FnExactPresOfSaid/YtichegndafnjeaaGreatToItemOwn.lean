/-
  The laws' own copy of an item: its slices lie in blocks of their own. Written by program (gen_toown.py). No condition.
-/
import Derived.Test.YtichegndafnjeaaGreatNItem
namespace Go.Proofs.YtichegndafnjeaaGreat
open Go.RowKit
set_option linter.unusedVariables false

set_option maxHeartbeats 4000000 in
set_option maxRecDepth 100000 in
theorem toItem_own (d : ItemD) (A0 : Option Addr) (c0 : Nat) (A1 : Option Addr) (c1 : Nat) (w : World) (s0 : SlF AnyB sone 1 w A0 d.proof c0) (s1 : SlF AnyB sone 1 w A1 d.more c1) (hf : ∀ n ∈ d.lens, n ≤ 1048576) :
    Calls Tryz.prog 14 #[.agg #[.int .i64 d.kind, .int .i64 d.old.number, .int .i64 d.old.size, .string d.old.root, .int .i64 d.old.taken, .string d.old.takenRoot, .int .i64 d.head.number, .int .i64 d.head.size, .string d.head.root, .int .i64 d.head.taken, .string d.head.takenRoot, .int .i64 d.leaf, .string d.entry.topic, .int .i64 d.entry.index, .int .i64 d.entry.time, .string d.entry.key, .string d.entry.body, .string d.receipt.reader, .string d.receipt.topic, .int .i64 d.receipt.index, .slice A0 d.proof.length c0, .slice A1 d.more.length c1]] w fun e w' => ∃ g0 g1, e = .returned (.agg #[.int .i64 d.kind, .int .i64 d.old.number, .int .i64 d.old.size, .string d.old.root, .int .i64 d.old.taken, .string d.old.takenRoot, .int .i64 d.head.number, .int .i64 d.head.size, .string d.head.root, .int .i64 d.head.taken, .string d.head.takenRoot, .int .i64 d.leaf, .string d.entry.topic, .int .i64 d.entry.index, .int .i64 d.entry.time, .string d.entry.key, .string d.entry.body, .string d.receipt.reader, .string d.receipt.topic, .int .i64 d.receipt.index, .slice (some ⟨g0, 0, none⟩) d.proof.length d.proof.length, .slice (some ⟨g1, 0, none⟩) d.more.length d.more.length]) ∧ w.heap.size ≤ g0 ∧ w.heap.size ≤ g1 ∧ g0 ≠ g1 ∧ Blk w' g0 9 (d.proof.flatMap sone).toArray ∧ Blk w' g1 9 (d.more.flatMap sone).toArray ∧ Ext w w' := by
  have l_proof : d.proof.length ≤ 1048576 := hf _ (by simp [ItemD.lens])
  have l_more : d.more.length ≤ 1048576 := hf _ (by simp [ItemD.lens])
  have S0 := Lib.hid s0; clear s0
  have S1 := Lib.hid s1; clear s1
  clear hf
  go_enter Tryz.func14, Tryz.ntmps14
  go_wp2_with fail
  have HE : Ext w (((w.alloc (.cells #[.int .i64 d.kind, .int .i64 d.old.number, .int .i64 d.old.size, .string d.old.root, .int .i64 d.old.taken, .string d.old.takenRoot, .int .i64 d.head.number, .int .i64 d.head.size, .string d.head.root, .int .i64 d.head.taken, .string d.head.takenRoot, .int .i64 d.leaf, .string d.entry.topic, .int .i64 d.entry.index, .int .i64 d.entry.time, .string d.entry.key, .string d.entry.body, .string d.receipt.reader, .string d.receipt.topic, .int .i64 d.receipt.index, .slice A0 d.proof.length c0, .slice A1 d.more.length c1] 41)).alloc (.cells #[.int .i64 0, .int .i64 0, .int .i64 0, .string ⟨#[]⟩, .int .i64 0, .string ⟨#[]⟩, .int .i64 0, .int .i64 0, .string ⟨#[]⟩, .int .i64 0, .string ⟨#[]⟩, .int .i64 0, .string ⟨#[]⟩, .int .i64 0, .int .i64 0, .string ⟨#[]⟩, .string ⟨#[]⟩, .string ⟨#[]⟩, .string ⟨#[]⟩, .int .i64 0, .slice none 0 0, .slice none 0 0] 50)).alloc (.cells #[.int .i64 d.kind, .int .i64 0, .int .i64 0, .string ⟨#[]⟩, .int .i64 0, .string ⟨#[]⟩, .int .i64 0, .int .i64 0, .string ⟨#[]⟩, .int .i64 0, .string ⟨#[]⟩, .int .i64 0, .string ⟨#[]⟩, .int .i64 0, .int .i64 0, .string ⟨#[]⟩, .string ⟨#[]⟩, .string ⟨#[]⟩, .string ⟨#[]⟩, .int .i64 0, .slice none 0 0, .slice none 0 0] 50)) := Ext.new (Ext.new (Ext.new (Below.refl _ w) _) _) _
  refine (toHead_any d.old _).mono ?_
  rintro e x1 ⟨rfl, hx⟩
  have B0 := (((Blk.new _ _ _).alloc _).alloc _).ext hx
  have B1 := ((Blk.new _ _ _).alloc _).ext hx
  have B2 := (Blk.new _ _ _).ext hx
  have he := HE.next hx
  have hgs : w.heap.size + 1 + 1 + 1 ≤ w.heap.size + 1 + 1 + 1 := Nat.le_refl _
  simp only [World.size_alloc] at B1 B2
  clear hx HE hgs
  obtain ⟨r0, f0⟩ := B0.rules
  obtain ⟨r2, f2⟩ := B2.rules
  go_upto_region 4 with fail
  have he_ := ext_setCells (W := w) (g := (w.heap.size + 1 + 1)) (by omega) [.int .i64 d.old.number, .int .i64 d.old.size, .string d.old.root, .int .i64 d.old.taken, .string d.old.takenRoot] 1 x1 he
  have C2 := B2.put 1 [.int .i64 d.old.number, .int .i64 d.old.size, .string d.old.root, .int .i64 d.old.taken, .string d.old.takenRoot] #[.int .i64 d.kind, .int .i64 d.old.number, .int .i64 d.old.size, .string d.old.root, .int .i64 d.old.taken, .string d.old.takenRoot, .int .i64 0, .int .i64 0, .string ⟨#[]⟩, .int .i64 0, .string ⟨#[]⟩, .int .i64 0, .string ⟨#[]⟩, .int .i64 0, .int .i64 0, .string ⟨#[]⟩, .string ⟨#[]⟩, .string ⟨#[]⟩, .string ⟨#[]⟩, .int .i64 0, .slice none 0 0, .slice none 0 0] (by simp) rfl
  have C1 := B1.farCells (g' := (w.heap.size + 1 + 1)) (by omega) [.int .i64 d.old.number, .int .i64 d.old.size, .string d.old.root, .int .i64 d.old.taken, .string d.old.takenRoot] 1
  have C0 := B0.farCells (g' := (w.heap.size + 1 + 1)) (by omega) [.int .i64 d.old.number, .int .i64 d.old.size, .string d.old.root, .int .i64 d.old.taken, .string d.old.takenRoot] 1
  clear r0 f0 r2 f2 B0 B1 B2 he
  change Code.wp _ _ _ _ (x1.setCells (w.heap.size + 1 + 1) 1 [.int .i64 d.old.number, .int .i64 d.old.size, .string d.old.root, .int .i64 d.old.taken, .string d.old.takenRoot])
  generalize x1.setCells (w.heap.size + 1 + 1) 1 [.int .i64 d.old.number, .int .i64 d.old.size, .string d.old.root, .int .i64 d.old.taken, .string d.old.takenRoot] = y1 at *
  have B0 := C0; have B1 := C1; have B2 := C2; have he := he_
  clear C0 C1 C2 he_
  obtain ⟨r0, f0⟩ := B0.rules
  obtain ⟨r2, f2⟩ := B2.rules
  go_wp2_with fail
  refine (toHead_any d.head _).mono ?_
  rintro e x2 ⟨rfl, hx⟩
  have hsz : w.heap.size + 1 + 1 + 1 ≤ y1.heap.size := B2.lt
  replace B0 := B0.ext hx; replace B1 := B1.ext hx; replace B2 := B2.ext hx; replace he := he.next hx
  clear hx hsz
  clear r0 f0 r2 f2
  obtain ⟨r0, f0⟩ := B0.rules
  obtain ⟨r2, f2⟩ := B2.rules
  go_upto_region 5 with fail
  have he_ := ext_setCells (W := w) (g := (w.heap.size + 1 + 1)) (by omega) [.int .i64 d.head.number, .int .i64 d.head.size, .string d.head.root, .int .i64 d.head.taken, .string d.head.takenRoot] 6 x2 he
  have C2 := B2.put 6 [.int .i64 d.head.number, .int .i64 d.head.size, .string d.head.root, .int .i64 d.head.taken, .string d.head.takenRoot] #[.int .i64 d.kind, .int .i64 d.old.number, .int .i64 d.old.size, .string d.old.root, .int .i64 d.old.taken, .string d.old.takenRoot, .int .i64 d.head.number, .int .i64 d.head.size, .string d.head.root, .int .i64 d.head.taken, .string d.head.takenRoot, .int .i64 0, .string ⟨#[]⟩, .int .i64 0, .int .i64 0, .string ⟨#[]⟩, .string ⟨#[]⟩, .string ⟨#[]⟩, .string ⟨#[]⟩, .int .i64 0, .slice none 0 0, .slice none 0 0] (by simp) rfl
  have C1 := B1.farCells (g' := (w.heap.size + 1 + 1)) (by omega) [.int .i64 d.head.number, .int .i64 d.head.size, .string d.head.root, .int .i64 d.head.taken, .string d.head.takenRoot] 6
  have C0 := B0.farCells (g' := (w.heap.size + 1 + 1)) (by omega) [.int .i64 d.head.number, .int .i64 d.head.size, .string d.head.root, .int .i64 d.head.taken, .string d.head.takenRoot] 6
  clear r0 f0 r2 f2 B0 B1 B2 he
  change Code.wp _ _ _ _ (x2.setCells (w.heap.size + 1 + 1) 6 [.int .i64 d.head.number, .int .i64 d.head.size, .string d.head.root, .int .i64 d.head.taken, .string d.head.takenRoot])
  generalize x2.setCells (w.heap.size + 1 + 1) 6 [.int .i64 d.head.number, .int .i64 d.head.size, .string d.head.root, .int .i64 d.head.taken, .string d.head.takenRoot] = y2 at *
  have B0 := C0; have B1 := C1; have B2 := C2; have he := he_
  clear C0 C1 C2 he_
  obtain ⟨r0, f0⟩ := B0.rules
  obtain ⟨r2, f2⟩ := B2.rules
  go_upto_region 6 with fail
  have he_ := ext_setCells (W := w) (g := (w.heap.size + 1 + 1)) (by omega) [.int .i64 d.leaf] 11 y2 he
  have C2 := B2.put 11 [.int .i64 d.leaf] #[.int .i64 d.kind, .int .i64 d.old.number, .int .i64 d.old.size, .string d.old.root, .int .i64 d.old.taken, .string d.old.takenRoot, .int .i64 d.head.number, .int .i64 d.head.size, .string d.head.root, .int .i64 d.head.taken, .string d.head.takenRoot, .int .i64 d.leaf, .string ⟨#[]⟩, .int .i64 0, .int .i64 0, .string ⟨#[]⟩, .string ⟨#[]⟩, .string ⟨#[]⟩, .string ⟨#[]⟩, .int .i64 0, .slice none 0 0, .slice none 0 0] (by simp) rfl
  have C1 := B1.farCells (g' := (w.heap.size + 1 + 1)) (by omega) [.int .i64 d.leaf] 11
  have C0 := B0.farCells (g' := (w.heap.size + 1 + 1)) (by omega) [.int .i64 d.leaf] 11
  clear r0 f0 r2 f2 B0 B1 B2 he
  change Code.wp _ _ _ _ (y2.setCells (w.heap.size + 1 + 1) 11 [.int .i64 d.leaf])
  generalize y2.setCells (w.heap.size + 1 + 1) 11 [.int .i64 d.leaf] = y3 at *
  have B0 := C0; have B1 := C1; have B2 := C2; have he := he_
  clear C0 C1 C2 he_
  obtain ⟨r0, f0⟩ := B0.rules
  obtain ⟨r2, f2⟩ := B2.rules
  go_wp2_with fail
  refine (toEntry_any d.entry _).mono ?_
  rintro e x4 ⟨rfl, hx⟩
  have hsz : w.heap.size + 1 + 1 + 1 ≤ y3.heap.size := B2.lt
  replace B0 := B0.ext hx; replace B1 := B1.ext hx; replace B2 := B2.ext hx; replace he := he.next hx
  clear hx hsz
  clear r0 f0 r2 f2
  obtain ⟨r0, f0⟩ := B0.rules
  obtain ⟨r2, f2⟩ := B2.rules
  go_upto_region 7 with fail
  have he_ := ext_setCells (W := w) (g := (w.heap.size + 1 + 1)) (by omega) [.string d.entry.topic, .int .i64 d.entry.index, .int .i64 d.entry.time, .string d.entry.key, .string d.entry.body] 12 x4 he
  have C2 := B2.put 12 [.string d.entry.topic, .int .i64 d.entry.index, .int .i64 d.entry.time, .string d.entry.key, .string d.entry.body] #[.int .i64 d.kind, .int .i64 d.old.number, .int .i64 d.old.size, .string d.old.root, .int .i64 d.old.taken, .string d.old.takenRoot, .int .i64 d.head.number, .int .i64 d.head.size, .string d.head.root, .int .i64 d.head.taken, .string d.head.takenRoot, .int .i64 d.leaf, .string d.entry.topic, .int .i64 d.entry.index, .int .i64 d.entry.time, .string d.entry.key, .string d.entry.body, .string ⟨#[]⟩, .string ⟨#[]⟩, .int .i64 0, .slice none 0 0, .slice none 0 0] (by simp) rfl
  have C1 := B1.farCells (g' := (w.heap.size + 1 + 1)) (by omega) [.string d.entry.topic, .int .i64 d.entry.index, .int .i64 d.entry.time, .string d.entry.key, .string d.entry.body] 12
  have C0 := B0.farCells (g' := (w.heap.size + 1 + 1)) (by omega) [.string d.entry.topic, .int .i64 d.entry.index, .int .i64 d.entry.time, .string d.entry.key, .string d.entry.body] 12
  clear r0 f0 r2 f2 B0 B1 B2 he
  change Code.wp _ _ _ _ (x4.setCells (w.heap.size + 1 + 1) 12 [.string d.entry.topic, .int .i64 d.entry.index, .int .i64 d.entry.time, .string d.entry.key, .string d.entry.body])
  generalize x4.setCells (w.heap.size + 1 + 1) 12 [.string d.entry.topic, .int .i64 d.entry.index, .int .i64 d.entry.time, .string d.entry.key, .string d.entry.body] = y4 at *
  have B0 := C0; have B1 := C1; have B2 := C2; have he := he_
  clear C0 C1 C2 he_
  obtain ⟨r0, f0⟩ := B0.rules
  obtain ⟨r2, f2⟩ := B2.rules
  go_wp2_with fail
  refine (toReceipt_any d.receipt _).mono ?_
  rintro e x5 ⟨rfl, hx⟩
  have hsz : w.heap.size + 1 + 1 + 1 ≤ y4.heap.size := B2.lt
  replace B0 := B0.ext hx; replace B1 := B1.ext hx; replace B2 := B2.ext hx; replace he := he.next hx
  clear hx hsz
  clear r0 f0 r2 f2
  obtain ⟨r0, f0⟩ := B0.rules
  obtain ⟨r2, f2⟩ := B2.rules
  go_upto_region 8 with fail
  have he_ := ext_setCells (W := w) (g := (w.heap.size + 1 + 1)) (by omega) [.string d.receipt.reader, .string d.receipt.topic, .int .i64 d.receipt.index] 17 x5 he
  have C2 := B2.put 17 [.string d.receipt.reader, .string d.receipt.topic, .int .i64 d.receipt.index] #[.int .i64 d.kind, .int .i64 d.old.number, .int .i64 d.old.size, .string d.old.root, .int .i64 d.old.taken, .string d.old.takenRoot, .int .i64 d.head.number, .int .i64 d.head.size, .string d.head.root, .int .i64 d.head.taken, .string d.head.takenRoot, .int .i64 d.leaf, .string d.entry.topic, .int .i64 d.entry.index, .int .i64 d.entry.time, .string d.entry.key, .string d.entry.body, .string d.receipt.reader, .string d.receipt.topic, .int .i64 d.receipt.index, .slice none 0 0, .slice none 0 0] (by simp) rfl
  have C1 := B1.farCells (g' := (w.heap.size + 1 + 1)) (by omega) [.string d.receipt.reader, .string d.receipt.topic, .int .i64 d.receipt.index] 17
  have C0 := B0.farCells (g' := (w.heap.size + 1 + 1)) (by omega) [.string d.receipt.reader, .string d.receipt.topic, .int .i64 d.receipt.index] 17
  clear r0 f0 r2 f2 B0 B1 B2 he
  change Code.wp _ _ _ _ (x5.setCells (w.heap.size + 1 + 1) 17 [.string d.receipt.reader, .string d.receipt.topic, .int .i64 d.receipt.index])
  generalize x5.setCells (w.heap.size + 1 + 1) 17 [.string d.receipt.reader, .string d.receipt.topic, .int .i64 d.receipt.index] = y5 at *
  have B0 := C0; have B1 := C1; have B2 := C2; have he := he_
  clear C0 C1 C2 he_
  obtain ⟨r0, f0⟩ := B0.rules
  obtain ⟨r2, f2⟩ := B2.rules
  go_wp2_with fail
  refine (toStringS_any A0 c0 d.proof _ (S0.out.ext he) l_proof).mono ?_
  rintro e x6 ⟨g0, rfl, hg, bg, hx⟩
  have hsz : w.heap.size + 1 + 1 + 1 ≤ y5.heap.size := B2.lt
  replace B0 := B0.ext hx; replace B1 := B1.ext hx; replace B2 := B2.ext hx; replace he := he.next hx
  have T0 := bg; have t0 : w.heap.size + 1 + 1 + 1 ≤ g0 := (show _ ≤ _ by omega)
  clear hx hsz
  clear r0 f0 r2 f2
  obtain ⟨r0, f0⟩ := B0.rules
  obtain ⟨r2, f2⟩ := B2.rules
  go_upto_region 9 with fail
  have he_ := ext_setCells (W := w) (g := (w.heap.size + 1 + 1)) (by omega) [.slice (some ⟨g0, 0, none⟩) d.proof.length d.proof.length] 20 x6 he
  have C2 := B2.put 20 [.slice (some ⟨g0, 0, none⟩) d.proof.length d.proof.length] #[.int .i64 d.kind, .int .i64 d.old.number, .int .i64 d.old.size, .string d.old.root, .int .i64 d.old.taken, .string d.old.takenRoot, .int .i64 d.head.number, .int .i64 d.head.size, .string d.head.root, .int .i64 d.head.taken, .string d.head.takenRoot, .int .i64 d.leaf, .string d.entry.topic, .int .i64 d.entry.index, .int .i64 d.entry.time, .string d.entry.key, .string d.entry.body, .string d.receipt.reader, .string d.receipt.topic, .int .i64 d.receipt.index, .slice (some ⟨g0, 0, none⟩) d.proof.length d.proof.length, .slice none 0 0] (by simp) rfl
  have C1 := B1.farCells (g' := (w.heap.size + 1 + 1)) (by omega) [.slice (some ⟨g0, 0, none⟩) d.proof.length d.proof.length] 20
  have C0 := B0.farCells (g' := (w.heap.size + 1 + 1)) (by omega) [.slice (some ⟨g0, 0, none⟩) d.proof.length d.proof.length] 20
  replace T0 := T0.farCells (g' := (w.heap.size + 1 + 1)) (by omega) [.slice (some ⟨g0, 0, none⟩) d.proof.length d.proof.length] 20
  clear r0 f0 r2 f2 B0 B1 B2 he
  change Code.wp _ _ _ _ (x6.setCells (w.heap.size + 1 + 1) 20 [.slice (some ⟨g0, 0, none⟩) d.proof.length d.proof.length])
  generalize x6.setCells (w.heap.size + 1 + 1) 20 [.slice (some ⟨g0, 0, none⟩) d.proof.length d.proof.length] = y6 at *
  have B0 := C0; have B1 := C1; have B2 := C2; have he := he_
  clear C0 C1 C2 he_
  obtain ⟨r0, f0⟩ := B0.rules
  obtain ⟨r2, f2⟩ := B2.rules
  go_wp2_with fail
  refine (toStringS_any A1 c1 d.more _ (S1.out.ext he) l_more).mono ?_
  rintro e x7 ⟨g1, rfl, hg, bg, hx⟩
  have hsz : w.heap.size + 1 + 1 + 1 ≤ y6.heap.size := B2.lt
  replace B0 := B0.ext hx; replace B1 := B1.ext hx; replace B2 := B2.ext hx; replace he := he.next hx
  have tn : g0 ≠ g1 := by have := T0.lt; omega
  replace T0 := (T0.ext hx)
  have T1 := bg; have t1 : w.heap.size + 1 + 1 + 1 ≤ g1 := (show _ ≤ _ by omega)
  clear hx hsz
  clear r0 f0 r2 f2
  obtain ⟨r0, f0⟩ := B0.rules
  obtain ⟨r2, f2⟩ := B2.rules
  go_upto_region 10 with fail
  have he_ := ext_setCells (W := w) (g := (w.heap.size + 1 + 1)) (by omega) [.slice (some ⟨g1, 0, none⟩) d.more.length d.more.length] 21 x7 he
  have C2 := B2.put 21 [.slice (some ⟨g1, 0, none⟩) d.more.length d.more.length] #[.int .i64 d.kind, .int .i64 d.old.number, .int .i64 d.old.size, .string d.old.root, .int .i64 d.old.taken, .string d.old.takenRoot, .int .i64 d.head.number, .int .i64 d.head.size, .string d.head.root, .int .i64 d.head.taken, .string d.head.takenRoot, .int .i64 d.leaf, .string d.entry.topic, .int .i64 d.entry.index, .int .i64 d.entry.time, .string d.entry.key, .string d.entry.body, .string d.receipt.reader, .string d.receipt.topic, .int .i64 d.receipt.index, .slice (some ⟨g0, 0, none⟩) d.proof.length d.proof.length, .slice (some ⟨g1, 0, none⟩) d.more.length d.more.length] (by simp) rfl
  have C1 := B1.farCells (g' := (w.heap.size + 1 + 1)) (by omega) [.slice (some ⟨g1, 0, none⟩) d.more.length d.more.length] 21
  have C0 := B0.farCells (g' := (w.heap.size + 1 + 1)) (by omega) [.slice (some ⟨g1, 0, none⟩) d.more.length d.more.length] 21
  replace T0 := T0.farCells (g' := (w.heap.size + 1 + 1)) (by omega) [.slice (some ⟨g1, 0, none⟩) d.more.length d.more.length] 21
  replace T1 := T1.farCells (g' := (w.heap.size + 1 + 1)) (by omega) [.slice (some ⟨g1, 0, none⟩) d.more.length d.more.length] 21
  clear r0 f0 r2 f2 B0 B1 B2 he
  change Code.wp _ _ _ _ (x7.setCells (w.heap.size + 1 + 1) 21 [.slice (some ⟨g1, 0, none⟩) d.more.length d.more.length])
  generalize x7.setCells (w.heap.size + 1 + 1) 21 [.slice (some ⟨g1, 0, none⟩) d.more.length d.more.length] = y7 at *
  have B0 := C0; have B1 := C1; have B2 := C2; have he := he_
  clear C0 C1 C2 he_
  obtain ⟨r0, f0⟩ := B0.rules
  obtain ⟨r2, f2⟩ := B2.rules
  have ld := Lib.hid (B2.range)
  have st := Lib.hid (B1.there 0 22 (by decide))
  have O1 : Hid ((#[.int .i64 d.kind, .int .i64 d.old.number, .int .i64 d.old.size, .string d.old.root, .int .i64 d.old.taken, .string d.old.takenRoot, .int .i64 d.head.number, .int .i64 d.head.size, .string d.head.root, .int .i64 d.head.taken, .string d.head.takenRoot, .int .i64 d.leaf, .string d.entry.topic, .int .i64 d.entry.index, .int .i64 d.entry.time, .string d.entry.key, .string d.entry.body, .string d.receipt.reader, .string d.receipt.topic, .int .i64 d.receipt.index, .slice (some ⟨g0, 0, none⟩) d.proof.length d.proof.length, .slice (some ⟨g1, 0, none⟩) d.more.length d.more.length] : Array Value).all (·.oneCell') = true) := Lib.hid (all_oneCell_toArray (by simp [Value.oneCell']))
  clear r0 f0 r2 f2
  have he_ := ext_setCells (W := w) (g := w.heap.size + 1) (by omega) [.int .i64 d.kind, .int .i64 d.old.number, .int .i64 d.old.size, .string d.old.root, .int .i64 d.old.taken, .string d.old.takenRoot, .int .i64 d.head.number, .int .i64 d.head.size, .string d.head.root, .int .i64 d.head.taken, .string d.head.takenRoot, .int .i64 d.leaf, .string d.entry.topic, .int .i64 d.entry.index, .int .i64 d.entry.time, .string d.entry.key, .string d.entry.body, .string d.receipt.reader, .string d.receipt.topic, .int .i64 d.receipt.index, .slice (some ⟨g0, 0, none⟩) d.proof.length d.proof.length, .slice (some ⟨g1, 0, none⟩) d.more.length d.more.length] 0 y7 he
  have E1 := B1.put 0 [.int .i64 d.kind, .int .i64 d.old.number, .int .i64 d.old.size, .string d.old.root, .int .i64 d.old.taken, .string d.old.takenRoot, .int .i64 d.head.number, .int .i64 d.head.size, .string d.head.root, .int .i64 d.head.taken, .string d.head.takenRoot, .int .i64 d.leaf, .string d.entry.topic, .int .i64 d.entry.index, .int .i64 d.entry.time, .string d.entry.key, .string d.entry.body, .string d.receipt.reader, .string d.receipt.topic, .int .i64 d.receipt.index, .slice (some ⟨g0, 0, none⟩) d.proof.length d.proof.length, .slice (some ⟨g1, 0, none⟩) d.more.length d.more.length] #[.int .i64 d.kind, .int .i64 d.old.number, .int .i64 d.old.size, .string d.old.root, .int .i64 d.old.taken, .string d.old.takenRoot, .int .i64 d.head.number, .int .i64 d.head.size, .string d.head.root, .int .i64 d.head.taken, .string d.head.takenRoot, .int .i64 d.leaf, .string d.entry.topic, .int .i64 d.entry.index, .int .i64 d.entry.time, .string d.entry.key, .string d.entry.body, .string d.receipt.reader, .string d.receipt.topic, .int .i64 d.receipt.index, .slice (some ⟨g0, 0, none⟩) d.proof.length d.proof.length, .slice (some ⟨g1, 0, none⟩) d.more.length d.more.length] (by simp) rfl
  replace T0 := T0.farCells (g' := w.heap.size + 1) (by omega) [.int .i64 d.kind, .int .i64 d.old.number, .int .i64 d.old.size, .string d.old.root, .int .i64 d.old.taken, .string d.old.takenRoot, .int .i64 d.head.number, .int .i64 d.head.size, .string d.head.root, .int .i64 d.head.taken, .string d.head.takenRoot, .int .i64 d.leaf, .string d.entry.topic, .int .i64 d.entry.index, .int .i64 d.entry.time, .string d.entry.key, .string d.entry.body, .string d.receipt.reader, .string d.receipt.topic, .int .i64 d.receipt.index, .slice (some ⟨g0, 0, none⟩) d.proof.length d.proof.length, .slice (some ⟨g1, 0, none⟩) d.more.length d.more.length] 0
  replace T1 := T1.farCells (g' := w.heap.size + 1) (by omega) [.int .i64 d.kind, .int .i64 d.old.number, .int .i64 d.old.size, .string d.old.root, .int .i64 d.old.taken, .string d.old.takenRoot, .int .i64 d.head.number, .int .i64 d.head.size, .string d.head.root, .int .i64 d.head.taken, .string d.head.takenRoot, .int .i64 d.leaf, .string d.entry.topic, .int .i64 d.entry.index, .int .i64 d.entry.time, .string d.entry.key, .string d.entry.body, .string d.receipt.reader, .string d.receipt.topic, .int .i64 d.receipt.index, .slice (some ⟨g0, 0, none⟩) d.proof.length d.proof.length, .slice (some ⟨g1, 0, none⟩) d.more.length d.more.length] 0
  clear B0 B1 B2 he
  go_wp2_with (first | (refine wpList_load_mid rfl 50 _ rfl (w.heap.size + 1 + 1) 0 rfl [.int .i64 d.kind, .int .i64 d.old.number, .int .i64 d.old.size, .string d.old.root, .int .i64 d.old.taken, .string d.old.takenRoot, .int .i64 d.head.number, .int .i64 d.head.size, .string d.head.root, .int .i64 d.head.taken, .string d.head.takenRoot, .int .i64 d.leaf, .string d.entry.topic, .int .i64 d.entry.index, .int .i64 d.entry.time, .string d.entry.key, .string d.entry.body, .string d.receipt.reader, .string d.receipt.topic, .int .i64 d.receipt.index, .slice (some ⟨g0, 0, none⟩) d.proof.length d.proof.length, .slice (some ⟨g1, 0, none⟩) d.more.length d.more.length] _ ld.out Tryz.underlying50 rfl (by kernel_rfl) ?_) | (refine wpList_store_mid rfl 50 _ _ rfl (w.heap.size + 1) 0 #[.int .i64 d.kind, .int .i64 d.old.number, .int .i64 d.old.size, .string d.old.root, .int .i64 d.old.taken, .string d.old.takenRoot, .int .i64 d.head.number, .int .i64 d.head.size, .string d.head.root, .int .i64 d.head.taken, .string d.head.takenRoot, .int .i64 d.leaf, .string d.entry.topic, .int .i64 d.entry.index, .int .i64 d.entry.time, .string d.entry.key, .string d.entry.body, .string d.receipt.reader, .string d.receipt.topic, .int .i64 d.receipt.index, .slice (some ⟨g0, 0, none⟩) d.proof.length d.proof.length, .slice (some ⟨g1, 0, none⟩) d.more.length d.more.length] rfl rfl st.out (by kernel_rfl) O1.out ?_; change wpList _ _ _ _ _ (y7.setCells (w.heap.size + 1) 0 [.int .i64 d.kind, .int .i64 d.old.number, .int .i64 d.old.size, .string d.old.root, .int .i64 d.old.taken, .string d.old.takenRoot, .int .i64 d.head.number, .int .i64 d.head.size, .string d.head.root, .int .i64 d.head.taken, .string d.head.takenRoot, .int .i64 d.leaf, .string d.entry.topic, .int .i64 d.entry.index, .int .i64 d.entry.time, .string d.entry.key, .string d.entry.body, .string d.receipt.reader, .string d.receipt.topic, .int .i64 d.receipt.index, .slice (some ⟨g0, 0, none⟩) d.proof.length d.proof.length, .slice (some ⟨g1, 0, none⟩) d.more.length d.more.length]); clear ld st O1; generalize y7.setCells (w.heap.size + 1) 0 [.int .i64 d.kind, .int .i64 d.old.number, .int .i64 d.old.size, .string d.old.root, .int .i64 d.old.taken, .string d.old.takenRoot, .int .i64 d.head.number, .int .i64 d.head.size, .string d.head.root, .int .i64 d.head.taken, .string d.head.takenRoot, .int .i64 d.leaf, .string d.entry.topic, .int .i64 d.entry.index, .int .i64 d.entry.time, .string d.entry.key, .string d.entry.body, .string d.receipt.reader, .string d.receipt.topic, .int .i64 d.receipt.index, .slice (some ⟨g0, 0, none⟩) d.proof.length d.proof.length, .slice (some ⟨g1, 0, none⟩) d.more.length d.more.length] = z at *))
  exact ret_row rfl rfl E1 Tryz.underlying50 rfl (by kernel_rfl) rfl ⟨g0, g1, rfl, by omega, by omega, tn, T0, T1, he_⟩
end Go.Proofs.YtichegndafnjeaaGreat
