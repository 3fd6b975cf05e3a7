/-
  The laws' own functions at a client: walks. Written by program (gen_cliok.py). No condition.
-/
import Derived.Test.YtaicjimppcledaaConvHead
import Derived.Test.YtaicjimppcledaaConvCursor
namespace Go.Proofs.Ytaicjimppcledaa
open Go.RowKit
set_option linter.unusedVariables false


def clientLens (s : ByteArray) (h : HeadD) (l : List CursorD) : List Nat := [s.size] ++ (h.lens ++ (l.length :: l.flatMap CursorD.lens))
theorem clientLens_cur {s : ByteArray} {h : HeadD} {l : List CursorD} {left : Int} (h0 : 0 ≤ left) (h1 : left ≤ 1048576) (hn : ¬ szL (clientLens s h l) left < 0) : l.length ≤ 1048576 := by
  unfold clientLens at hn
  rw [szL_append _ _ _ h0] at hn
  have p1 := szL_pos [s.size] left h0
  have q1 := szL_le [s.size] left
  split at hn
  · exact absurd (by decide) hn
  rename_i n1
  rw [szL_append _ _ _ (by omega)] at hn
  have p2 := szL_pos h.lens (szL [s.size] left) (by omega)
  have q2 := szL_le h.lens (szL [s.size] left)
  split at hn
  · exact absurd (by decide) hn
  rename_i n2
  exact szL_first (left := szL h.lens (szL [s.size] left)) (by rcases q1 with h | h <;> rcases q2 with h' | h' <;> omega) hn
set_option maxHeartbeats 1000000 in
theorem szClient_any (n : Int) (s : ByteArray) (h : HeadD) (A : Option Addr) (c : Nat) (l : List CursorD) (left : Int) (w : World) (hs : s.size ≤ maxLen) (hh : h.Ok) (hr : ReadsL w w.heap.size CursorD.cells 3 A l) (hok : ∀ d ∈ l, d.Ok) (hl : l.length ≤ maxLen) (h0 : 0 ≤ left) (h1 : left ≤ 1048576) :
    Calls Try.prog 55 #[.agg #[.int .i64 n, .string s, .int .i64 h.number, .int .i64 h.size, .string h.root, .int .i64 h.taken, .string h.takenRoot, .slice A l.length c], .int .i64 left] w fun e w' => e = .returned (.int .i64 (szL (clientLens s h l) left)) ∧ Ext w w' := by
  have Hok := Lib.hid hok; clear hok
  have Hr := Lib.hid hr; clear hr
  have Hll := Lib.hid hl; clear hl
  unfold maxLen at hs
  have K0 := Lib.hid (Blk.new w 84 #[.int .i64 n, .string s, .int .i64 h.number, .int .i64 h.size, .string h.root, .int .i64 h.taken, .string h.takenRoot, .slice A l.length c])
  have He := Lib.hid (Ext.new (Below.refl w.heap.size w) (.cells #[.int .i64 n, .string s, .int .i64 h.number, .int .i64 h.size, .string h.root, .int .i64 h.taken, .string h.takenRoot, .slice A l.length c] 84))
  have Hl := Lib.hid (show szL (clientLens s h l) left = if left - (s.size : Int) < 0 then -1 else szL (h.lens ++ (l.length :: l.flatMap CursorD.lens)) (left - s.size) from rfl)
  by_cases n1 : left - (s.size : Int) < 0
  · have E := Lib.hid (show szL (clientLens s h l) left = -1 by rw [Hl.out, if_pos n1])
    go_enter Try.func55, Try.ntmps55
    go_wp2_with fail
    go_ret
    exact ⟨ret_int E.out.symm, He.out⟩
  obtain ⟨q, hq⟩ : ∃ q, q = left - (s.size : Int) := ⟨_, rfl⟩
  have q0 : 0 ≤ q := by omega
  have q1 : q ≤ 1048576 := by omega
  have Hl2 := Lib.hid (show szL (clientLens s h l) left = if szL h.lens q < 0 then -1 else szL (l.length :: l.flatMap CursorD.lens) (szL h.lens q) by rw [Hl.out, if_neg n1, ← hq, szL_append _ _ _ q0])
  clear Hl
  have hw : IntKind.i64.wrap (left - (s.size : Int)) = q := by rw [hq]; exact IntWalk.i64_in _ (by omega)
  clear hq
  go_enter Try.func55, Try.ntmps55
  go_wp2_with fail
  refine (szHead_any h q _ hh q0 q1).mono ?_
  rintro e w1 ⟨rfl, h1'⟩
  have K1 := K0.out.ext h1'; have he := He.out.next h1'; clear h1' K0 He
  obtain ⟨r0, m0⟩ := K1.rules
  have hp := szL_pos h.lens q q0
  have hqq := szL_le h.lens q
  by_cases hn : szL h.lens q < 0
  · have E := Lib.hid (show szL (clientLens s h l) left = -1 by rw [Hl2.out, if_pos hn])
    clear hp hqq
    go_wp2_with fail
    go_ret
    exact ⟨ret_int E.out.symm, he⟩
  have E := Lib.hid (show szL (clientLens s h l) left = szL (l.length :: l.flatMap CursorD.lens) (szL h.lens q) by rw [Hl2.out, if_neg hn])
  have u0 : 0 ≤ szL h.lens q := by omega
  have u1 : szL h.lens q ≤ 1048576 := by rcases hqq with h | h <;> omega
  have hp2 := szL_pos (l.length :: l.flatMap CursorD.lens) (szL h.lens q) u0
  clear hp hqq hn Hl2
  go_wp2_with fail
  refine (szCursorS_any A c l (szL h.lens q) _ (Hr.out.ext he) Hok.out Hll.out u0 u1).mono ?_
  rintro e w2 ⟨rfl, h1'⟩
  replace he := he.next h1'
  by_cases hn2 : szL (l.length :: l.flatMap CursorD.lens) (szL h.lens q) < 0
  · have e2 : szL (l.length :: l.flatMap CursorD.lens) (szL h.lens q) = -1 := by rcases hp2 with h | h <;> omega
    have E2 := Lib.hid (show szL (clientLens s h l) left = -1 by rw [E.out, e2])
    clear hp2 e2
    go_wp2_with fail
    go_ret
    exact ⟨ret_int E2.out.symm, he⟩
  · clear hp2
    go_wp2_with fail
    go_ret
    exact ⟨ret_int E.out.symm, he⟩
set_option maxHeartbeats 2000000 in
theorem toClient_any (n : Int) (s : ByteArray) (h : HeadD) (A : Option Addr) (c : Nat) (l : List CursorD) (w : World) (hr : ReadsL w w.heap.size CursorD.cells 3 A l) (hl : l.length ≤ 1048576) :
    Calls Try.prog 57 #[.agg #[.int .i64 n, .string s, .int .i64 h.number, .int .i64 h.size, .string h.root, .int .i64 h.taken, .string h.takenRoot, .slice A l.length c]] w fun e w' => ∃ g, e = .returned (.agg #[.int .i64 n, .string s, .int .i64 h.number, .int .i64 h.size, .string h.root, .int .i64 h.taken, .string h.takenRoot, .slice (some ⟨g, 0, none⟩) l.length l.length]) ∧ w.heap.size ≤ g ∧ Blk w' g 136 (l.flatMap CursorD.cells).toArray ∧ Ext w w' := by
  have Hr := Lib.hid hr; clear hr
  go_enter Try.func57, Try.ntmps57
  go_wp2_with fail
  refine (toHead_any h _).mono ?_
  rintro e w1 ⟨rfl, h1⟩
  have B0 := (((Blk.new _ _ _).alloc _).alloc _).ext h1
  have B1 := ((Blk.new _ _ _).alloc _).ext h1
  have B2 := (Blk.new _ _ _).ext h1
  have he := (Ext.new (Ext.new (Ext.new (Below.refl _ w) _) _) _).next h1
  simp only [World.size_alloc] at B1 B2
  clear h1
  obtain ⟨r0, f0⟩ := B0.rules
  obtain ⟨r1, f1⟩ := B1.rules
  obtain ⟨r2, f2⟩ := B2.rules
  go_upto_region 5 with fail
  have he2 := ext_setCells (W := w) (g := w.heap.size + 1 + 1) (by omega) h.cells 2 w1 he
  have C2 := B2.put 2 h.cells #[.int .i64 n, .string s, .int .i64 h.number, .int .i64 h.size, .string h.root, .int .i64 h.taken, .string h.takenRoot, .slice none 0 0] (by simp [HeadD.cells]) rfl
  have C1 := B1.farCells (g' := w.heap.size + 1 + 1) (by omega) h.cells 2
  have C0 := B0.farCells (g' := w.heap.size + 1 + 1) (by omega) h.cells 2
  clear r0 f0 r1 f1 r2 f2 B0 B1 B2 he
  change Code.wp _ _ _ _ (w1.setCells (w.heap.size + 1 + 1) 2 h.cells)
  generalize w1.setCells (w.heap.size + 1 + 1) 2 h.cells = w2 at *
  obtain ⟨r0, f0⟩ := C0.rules
  go_wp2_with fail
  refine (toCursorS_any A c l _ (Hr.out.ext he2) hl).mono ?_
  rintro e w3 ⟨g, rfl, hg, bg, h1⟩
  have hg3 : w.heap.size + 1 + 1 < g := by have := C2.lt; omega
  have hg0 : w.heap.size ≤ g := by omega
  replace C0 := C0.ext h1; replace C1 := C1.ext h1; replace C2 := C2.ext h1; replace he2 := he2.next h1
  clear h1 r0 f0 hg
  obtain ⟨r2, f2⟩ := C2.rules
  go_upto_region 6 with fail
  have he3 := ext_setCells (W := w) (g := w.heap.size + 1 + 1) (by omega) [.slice (some ⟨g, 0, none⟩) l.length l.length] 7 w3 he2
  have D2 := C2.put 7 [.slice (some ⟨g, 0, none⟩) l.length l.length] #[.int .i64 n, .string s, .int .i64 h.number, .int .i64 h.size, .string h.root, .int .i64 h.taken, .string h.takenRoot, .slice (some ⟨g, 0, none⟩) l.length l.length] (by simp [HeadD.cells]) rfl
  have D1 := C1.farCells (g' := w.heap.size + 1 + 1) (by omega) [.slice (some ⟨g, 0, none⟩) l.length l.length] 7
  have Dg := bg.farCells (g' := w.heap.size + 1 + 1) (by omega) [.slice (some ⟨g, 0, none⟩) l.length l.length] 7
  clear r2 f2 C0 C1 C2 he2 bg
  change Code.wp _ _ _ _ (w3.setCells (w.heap.size + 1 + 1) 7 [.slice (some ⟨g, 0, none⟩) l.length l.length])
  generalize w3.setCells (w.heap.size + 1 + 1) 7 [.slice (some ⟨g, 0, none⟩) l.length l.length] = w4 at *
  obtain ⟨r1, f1⟩ := D1.rules
  obtain ⟨r2, f2⟩ := D2.rules
  go_wp2_with fail
  have he4 := ext_setCells (W := w) (g := w.heap.size + 1) (by omega) [.int .i64 n, .string s, .int .i64 h.number, .int .i64 h.size, .string h.root, .int .i64 h.taken, .string h.takenRoot, .slice (some ⟨g, 0, none⟩) l.length l.length] 0 w4 he3
  have E1 := D1.put 0 [.int .i64 n, .string s, .int .i64 h.number, .int .i64 h.size, .string h.root, .int .i64 h.taken, .string h.takenRoot, .slice (some ⟨g, 0, none⟩) l.length l.length] #[.int .i64 n, .string s, .int .i64 h.number, .int .i64 h.size, .string h.root, .int .i64 h.taken, .string h.takenRoot, .slice (some ⟨g, 0, none⟩) l.length l.length] (by simp) rfl
  have Eg := Dg.farCells (g' := w.heap.size + 1) (by omega) [.int .i64 n, .string s, .int .i64 h.number, .int .i64 h.size, .string h.root, .int .i64 h.taken, .string h.takenRoot, .slice (some ⟨g, 0, none⟩) l.length l.length] 0
  change bodyPost _ _ _ _ _ (w4.setCells (w.heap.size + 1) 0 [.int .i64 n, .string s, .int .i64 h.number, .int .i64 h.size, .string h.root, .int .i64 h.taken, .string h.takenRoot, .slice (some ⟨g, 0, none⟩) l.length l.length])
  clear r1 f1 r2 f2 D1 D2 Dg he3
  generalize w4.setCells (w.heap.size + 1) 0 [.int .i64 n, .string s, .int .i64 h.number, .int .i64 h.size, .string h.root, .int .i64 h.taken, .string h.takenRoot, .slice (some ⟨g, 0, none⟩) l.length l.length] = w5 at *
  exact ret_row rfl rfl E1 Try.underlying71 rfl (by kernel_rfl) rfl ⟨g, rfl, hg0, Eg, he4⟩
set_option maxHeartbeats 1000000 in
theorem eqClient_same (n : Int) (s : ByteArray) (h : HeadD) (A A' : Option Addr) (c c' : Nat) (l : List CursorD) (w : World) (hr : ReadsL w w.heap.size CursorD.cells 3 A l) (hr' : ReadsL w w.heap.size CursorD.cells 3 A' l) (hl : l.length ≤ 1048576) :
    Calls Try.prog 47 #[.agg #[.int .i64 n, .string s, .int .i64 h.number, .int .i64 h.size, .string h.root, .int .i64 h.taken, .string h.takenRoot, .slice A l.length c], .agg #[.int .i64 n, .string s, .int .i64 h.number, .int .i64 h.size, .string h.root, .int .i64 h.taken, .string h.takenRoot, .slice A' l.length c']] w fun e w' => e = .returned (.bool true) ∧ Ext w w' := by
  have Hr := Lib.hid hr; clear hr
  have Hr' := Lib.hid hr'; clear hr'
  go_enter Try.func47, Try.ntmps47
  go_wp2_with fail
  refine (eqHead_same h _).mono ?_
  rintro e w1 ⟨rfl, h1⟩
  have B0 := ((Blk.new _ _ _).alloc _).ext h1
  have B1 := (Blk.new _ _ _).ext h1
  have he := (Ext.new (Ext.new (Below.refl _ w) _) _).next h1
  simp only [World.size_alloc] at B1
  clear h1
  obtain ⟨r0, f0⟩ := B0.rules
  obtain ⟨r1, f1⟩ := B1.rules
  go_wp2_with fail
  refine (eqCursorS_same A A' c c' l _ (Hr.out.ext he) (Hr'.out.ext he) hl).mono ?_
  rintro e w2 ⟨rfl, h1⟩
  replace he := he.next h1
  go_wp2_with fail
  go_ret
  exact ⟨rfl, he⟩
end Go.Proofs.Ytaicjimppcledaa
