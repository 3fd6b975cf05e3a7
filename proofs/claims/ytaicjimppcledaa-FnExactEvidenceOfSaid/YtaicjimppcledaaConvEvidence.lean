/-
  The laws' own copying and comparing functions at Evidence: walks. Written by program (gen_conv.py). No condition.
-/
import Derived.Test.YtaicjimppcledaaTypes
import Derived.Test.YtaicjimppcledaaConvHead
import Derived.StillTailTactics
namespace Go.Proofs.Ytaicjimppcledaa
open Go.RowKit
set_option linter.unusedVariables false

def EvidenceD.lens (d : EvidenceD) : List Nat := [d.a.root.size, d.a.takenRoot.size, d.b.root.size, d.b.takenRoot.size]
theorem evidence_lens (d : EvidenceD) : d.lens = d.a.lens ++ d.b.lens := rfl
set_option maxHeartbeats 1000000 in
theorem szEvidence_any (d : EvidenceD) (left : Int) (w : World) (hd : d.Ok) (h0 : 0 ≤ left) (h1 : left ≤ 1048576) :
    Calls Try.prog 20 #[.agg #[.int .i64 d.width, .int .i64 d.a.number, .int .i64 d.a.size, .string d.a.root, .int .i64 d.a.taken, .string d.a.takenRoot, .int .i64 d.b.number, .int .i64 d.b.size, .string d.b.root, .int .i64 d.b.taken, .string d.b.takenRoot], .int .i64 left] w fun e w' => e = .returned (.int .i64 (szL d.lens left)) ∧ Ext w w' := by
  have ha : d.a.Ok := by unfold EvidenceD.Ok at hd; exact ⟨hd.2.1, hd.2.2.1, hd.2.2.2.1, hd.2.2.2.2.1, hd.2.2.2.2.2.1⟩
  have hb : d.b.Ok := by unfold EvidenceD.Ok at hd; exact hd.2.2.2.2.2.2
  clear hd
  have K0 := Lib.hid (Blk.new w 35 #[.int .i64 d.width, .int .i64 d.a.number, .int .i64 d.a.size, .string d.a.root, .int .i64 d.a.taken, .string d.a.takenRoot, .int .i64 d.b.number, .int .i64 d.b.size, .string d.b.root, .int .i64 d.b.taken, .string d.b.takenRoot])
  have He := Lib.hid (Ext.new (Below.refl w.heap.size w) (.cells #[.int .i64 d.width, .int .i64 d.a.number, .int .i64 d.a.size, .string d.a.root, .int .i64 d.a.taken, .string d.a.takenRoot, .int .i64 d.b.number, .int .i64 d.b.size, .string d.b.root, .int .i64 d.b.taken, .string d.b.takenRoot] 35))
  have Hl := Lib.hid (show szL d.lens left = if szL d.a.lens left < 0 then -1 else szL d.b.lens (szL d.a.lens left) by rw [evidence_lens, szL_append _ _ _ h0])
  have hp := szL_pos d.a.lens left h0
  have hq := szL_le d.a.lens left
  go_enter Try.func20, Try.ntmps20
  go_wp2_with fail
  refine (szHead_any d.a left _ ha h0 h1).mono ?_
  rintro e w1 ⟨rfl, h1'⟩
  have K1 := K0.out.ext h1'; have he := He.out.next h1'; clear h1' K0 He
  obtain ⟨r0, m0⟩ := K1.rules
  by_cases hn : szL d.a.lens left < 0
  · have E := Lib.hid (show szL d.lens left = -1 by rw [Hl.out, if_pos hn])
    clear hp hq
    go_wp2_with fail
    go_ret
    exact ⟨ret_int E.out.symm, he⟩
  · have E := Lib.hid (show szL d.lens left = szL d.b.lens (szL d.a.lens left) by rw [Hl.out, if_neg hn])
    have u0 : 0 ≤ szL d.a.lens left := by omega
    have u1 : szL d.a.lens left ≤ 1048576 := by rcases hq with h | h <;> omega
    have hp2 := szL_pos d.b.lens (szL d.a.lens left) u0
    clear hp hq hn
    go_wp2_with fail
    refine (szHead_any d.b (szL d.a.lens left) _ hb u0 u1).mono ?_
    rintro e w2 ⟨rfl, h1'⟩
    replace he := he.next h1'
    by_cases hn2 : szL d.b.lens (szL d.a.lens left) < 0
    · have e2 : szL d.b.lens (szL d.a.lens left) = -1 := by rcases hp2 with h | h <;> omega
      have E2 := Lib.hid (show szL d.lens left = -1 by rw [E.out, e2])
      clear hp2 e2
      go_wp2_with fail
      go_ret
      exact ⟨ret_int E2.out.symm, he⟩
    · clear hp2
      go_wp2_with fail
      go_ret
      exact ⟨ret_int E.out.symm, he⟩
set_option maxHeartbeats 2000000 in
theorem toEvidence_any (d : EvidenceD) (w : World) :
    Calls Try.prog 22 #[.agg #[.int .i64 d.width, .int .i64 d.a.number, .int .i64 d.a.size, .string d.a.root, .int .i64 d.a.taken, .string d.a.takenRoot, .int .i64 d.b.number, .int .i64 d.b.size, .string d.b.root, .int .i64 d.b.taken, .string d.b.takenRoot]] w fun e w' => e = .returned (.agg #[.int .i64 d.width, .int .i64 d.a.number, .int .i64 d.a.size, .string d.a.root, .int .i64 d.a.taken, .string d.a.takenRoot, .int .i64 d.b.number, .int .i64 d.b.size, .string d.b.root, .int .i64 d.b.taken, .string d.b.takenRoot]) ∧ Ext w w' := by
  go_enter Try.func22, Try.ntmps22
  go_wp2_with fail
  refine (toHead_any d.a _).mono ?_
  rintro e w1 ⟨rfl, h1⟩
  have B0 := (((Blk.new _ _ _).alloc _).alloc _).ext h1
  have B1 := ((Blk.new _ _ _).alloc _).ext h1
  have B2 := (Blk.new _ _ _).ext h1
  have he := (Ext.new (Ext.new (Ext.new (Below.refl _ w) _) _) _).next h1
  simp only [World.size_alloc] at B1 B2
  clear h1
  obtain ⟨r0, f0⟩ := B0.rules
  obtain ⟨r1, f1⟩ := B1.rules
  obtain ⟨r2, f2⟩ := B2.rules
  go_upto_region 4 with fail
  have he2 := ext_setCells (W := w) (g := w.heap.size + 1 + 1) (by omega) d.a.cells 1 w1 he
  have C2 := B2.put 1 d.a.cells #[.int .i64 d.width, .int .i64 d.a.number, .int .i64 d.a.size, .string d.a.root, .int .i64 d.a.taken, .string d.a.takenRoot, .int .i64 0, .int .i64 0, .string ⟨#[]⟩, .int .i64 0, .string ⟨#[]⟩] (by simp [HeadD.cells]) rfl
  have C1 := B1.farCells (g' := w.heap.size + 1 + 1) (by omega) d.a.cells 1
  have C0 := B0.farCells (g' := w.heap.size + 1 + 1) (by omega) d.a.cells 1
  clear r0 f0 r1 f1 r2 f2 B0 B1 B2 he
  change Code.wp _ _ _ _ (w1.setCells (w.heap.size + 1 + 1) 1 d.a.cells)
  generalize w1.setCells (w.heap.size + 1 + 1) 1 d.a.cells = w2 at *
  obtain ⟨r0, f0⟩ := C0.rules
  go_wp2_with fail
  refine (toHead_any d.b _).mono ?_
  rintro e w3 ⟨rfl, h1⟩
  replace C0 := C0.ext h1; replace C1 := C1.ext h1; replace C2 := C2.ext h1; replace he2 := he2.next h1
  clear h1 r0 f0
  obtain ⟨r2, f2⟩ := C2.rules
  go_upto_region 5 with fail
  have he3 := ext_setCells (W := w) (g := w.heap.size + 1 + 1) (by omega) d.b.cells 6 w3 he2
  have D2 := C2.put 6 d.b.cells #[.int .i64 d.width, .int .i64 d.a.number, .int .i64 d.a.size, .string d.a.root, .int .i64 d.a.taken, .string d.a.takenRoot, .int .i64 d.b.number, .int .i64 d.b.size, .string d.b.root, .int .i64 d.b.taken, .string d.b.takenRoot] (by simp [HeadD.cells]) rfl
  have D1 := C1.farCells (g' := w.heap.size + 1 + 1) (by omega) d.b.cells 6
  clear r2 f2 C0 C1 C2 he2
  change Code.wp _ _ _ _ (w3.setCells (w.heap.size + 1 + 1) 6 d.b.cells)
  generalize w3.setCells (w.heap.size + 1 + 1) 6 d.b.cells = w4 at *
  obtain ⟨r1, f1⟩ := D1.rules
  obtain ⟨r2, f2⟩ := D2.rules
  go_wp2_with fail
  have he4 := ext_setCells (W := w) (g := w.heap.size + 1) (by omega) d.cells 0 w4 he3
  have E1 := D1.put 0 d.cells d.cells.toArray (by simp [EvidenceD.cells]) rfl
  change bodyPost _ _ _ _ _ (w4.setCells (w.heap.size + 1) 0 d.cells)
  clear r1 f1 r2 f2 D1 D2 he3
  generalize w4.setCells (w.heap.size + 1) 0 d.cells = w5 at *
  exact ret_row rfl rfl E1 Try.underlying40 rfl (by kernel_rfl) rfl ⟨rfl, he4⟩
set_option maxHeartbeats 2000000 in
theorem eqEvidence_same (d : EvidenceD) (w : World) :
    Calls Try.prog 36 #[.agg #[.int .i64 d.width, .int .i64 d.a.number, .int .i64 d.a.size, .string d.a.root, .int .i64 d.a.taken, .string d.a.takenRoot, .int .i64 d.b.number, .int .i64 d.b.size, .string d.b.root, .int .i64 d.b.taken, .string d.b.takenRoot], .agg #[.int .i64 d.width, .int .i64 d.a.number, .int .i64 d.a.size, .string d.a.root, .int .i64 d.a.taken, .string d.a.takenRoot, .int .i64 d.b.number, .int .i64 d.b.size, .string d.b.root, .int .i64 d.b.taken, .string d.b.takenRoot]] w fun e w' => e = .returned (.bool true) ∧ Ext w w' := by
  go_enter Try.func36, Try.ntmps36
  go_wp2_with fail
  refine (eqHead_same d.a _).mono ?_
  rintro e w1 ⟨rfl, h1⟩
  have B0 := ((Blk.new _ _ _).alloc _).ext h1
  have B1 := (Blk.new _ _ _).ext h1
  have he := (Ext.new (Ext.new (Below.refl _ w) _) _).next h1
  simp only [World.size_alloc] at B1
  clear h1
  obtain ⟨r0, f0⟩ := B0.rules
  obtain ⟨r1, f1⟩ := B1.rules
  go_wp2_with fail
  refine (eqHead_same d.b _).mono ?_
  rintro e w2 ⟨rfl, h1⟩
  replace he := he.next h1
  go_wp2_with fail
  go_ret
  exact ⟨rfl, he⟩

end Go.Proofs.Ytaicjimppcledaa
