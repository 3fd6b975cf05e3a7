/-
  What Client is in memory; the laws' own functions at it: walks. Written by program (gen_nest.py). No condition.
-/
import Derived.Test.YtichegndafnjeaaDoorNest
import Derived.Test.YtichegndafnjeaaDoorConvHead
import Derived.Test.YtichegndafnjeaaDoorConvCursor
import Derived.StillTailTactics
namespace Go.Proofs.YtichegndafnjeaaDoor
set_option linter.unusedSimpArgs false
open Go.RowKit
set_option linter.unusedVariables false

structure ClientD where
  width : Int
  name : ByteArray
  head : HeadD
  cursors : List CursorD
def ClientD.In : Rep ClientD := fun p w cs d => ∃ (A0 : Option Addr) (c0 : Nat), cs = [.int .i64 d.width, .string d.name, .int .i64 d.head.number, .int .i64 d.head.size, .string d.head.root, .int .i64 d.head.taken, .string d.head.takenRoot, .slice A0 d.cursors.length c0] ∧ SlF p CursorD.cells 3 w A0 d.cursors c0
theorem ClientD.steady : Steady ClientD.In := ⟨fun h k => by obtain ⟨A0, c0, rfl, s0⟩ := h; exact ⟨_, _, rfl, s0.keep k⟩, fun h k => by obtain ⟨A0, c0, rfl, s0⟩ := h; exact ⟨_, _, rfl, s0.mono k⟩⟩
theorem ClientD.in_len {p : Nat → Prop} {w : World} {cs : List Value} {d : ClientD} (h : ClientD.In p w cs d) : cs.length = 8 := by obtain ⟨A0, c0, rfl, _⟩ := h; rfl
def ClientD.Ok (d : ClientD) : Prop := (Lit.int .i64 d.width).wf = true ∧ d.name.size ≤ maxLen ∧ d.head.Ok ∧ (∀ x ∈ d.cursors, x.Ok)
def ClientD.lens (d : ClientD) : List Nat := [d.name.size] ++ (d.head.lens ++ ((d.cursors.length :: d.cursors.flatMap CursorD.lens) ++ []))
set_option maxRecDepth 100000 in
theorem ClientD.typed {w : World} {n : Nat} {cs : List Value} (h : Typed Tryd.prog w n 92 cs) : ∃ d : ClientD, ClientD.In AnyB w cs d ∧ d.Ok := by
  obtain ⟨hl, m, hf⟩ := typed_struct Tryd.underlying92 h
  have hC : Tryd.prog.cellsOf 92 = 8 := by kernel_rfl
  have hs0 : Tryd.prog.cellsOf 3 = 1 := by kernel_rfl
  have hs1 : Tryd.prog.cellsOf 9 = 1 := by kernel_rfl
  have hs2 : Tryd.prog.cellsOf 31 = 5 := by kernel_rfl
  have hs3 : Tryd.prog.cellsOf 90 = 1 := by kernel_rfl
  rw [hC] at hl
  match cs, hl with
  | [x0, x1, x2, x3, x4, x5, x6, x7], _ =>
    have f0 := hf _ (List.mem_iff_getElem?.2 ⟨0, rfl⟩)
    simp only [hs0, List.drop_zero, List.take_succ_cons, List.take_zero] at f0
    obtain ⟨a0, e0, w0⟩ := typed_int Tryd.underlying3 f0
    obtain rfl : x0 = _ := by simpa using e0
    have f1 := hf _ (List.mem_iff_getElem?.2 ⟨1, rfl⟩)
    simp only [hs1, List.drop_succ_cons, List.drop_zero, List.take_succ_cons, List.take_zero] at f1
    obtain ⟨a1, e1, w1⟩ := typed_string Tryd.underlying9 f1
    obtain rfl : x1 = _ := by simpa using e1
    have f2 := hf _ (List.mem_iff_getElem?.2 ⟨2, rfl⟩)
    simp only [hs2, List.drop_succ_cons, List.drop_zero, List.take_succ_cons, List.take_zero] at f2
    obtain ⟨a2, e2, w2⟩ := HeadD.typed f2
    simp only [HeadD.cells, List.cons.injEq, and_true] at e2
    obtain ⟨rfl, rfl, rfl, rfl, rfl⟩ := e2
    have f3 := hf _ (List.mem_iff_getElem?.2 ⟨3, rfl⟩)
    simp only [hs3, List.drop_succ_cons, List.drop_zero, List.take_succ_cons, List.take_zero] at f3
    obtain ⟨A0, c0, a3, e3, s0, w3⟩ := typed_sliceF CursorD.cells CursorD.Ok 3 Tryd.underlying90 (by kernel_rfl) (by decide) CursorD.cells_length (fun m es h => CursorD.typed h) f3
    obtain rfl : x7 = _ := by simpa using e3
    exact ⟨⟨a0, a1, a2, a3⟩, ⟨_, _, rfl, s0⟩, w0, w1, w2, w3⟩
set_option maxHeartbeats 2000000 in
set_option maxRecDepth 100000 in
theorem szClient_any (d : ClientD) (A0 : Option Addr) (c0 : Nat) (left : Int) (w : World) (hok : d.Ok) (s0 : SlF AnyB CursorD.cells 3 w A0 d.cursors c0) (h0 : 0 ≤ left) (h1 : left ≤ 1048576) :
    Calls Tryd.prog 34 #[.agg #[.int .i64 d.width, .string d.name, .int .i64 d.head.number, .int .i64 d.head.size, .string d.head.root, .int .i64 d.head.taken, .string d.head.takenRoot, .slice A0 d.cursors.length c0], .int .i64 left] w fun e w' => e = .returned (.int .i64 (szL d.lens left)) ∧ Ext w w' := by
  obtain ⟨-, k_name, k_head, k_cursors⟩ := hok
  have S0 := Lib.hid s0; clear s0
  unfold maxLen at k_name
  have K_head := Lib.hid k_head; clear k_head
  have K_cursors := Lib.hid k_cursors; clear k_cursors
  have K0 := Lib.hid (Blk.new w 92 #[.int .i64 d.width, .string d.name, .int .i64 d.head.number, .int .i64 d.head.size, .string d.head.root, .int .i64 d.head.taken, .string d.head.takenRoot, .slice A0 d.cursors.length c0])
  have He := Lib.hid (Ext.new (Below.refl w.heap.size w) (.cells #[.int .i64 d.width, .string d.name, .int .i64 d.head.number, .int .i64 d.head.size, .string d.head.root, .int .i64 d.head.taken, .string d.head.takenRoot, .slice A0 d.cursors.length c0] 92))
  obtain ⟨fin, hfin⟩ : ∃ fin, fin = szL d.lens left := ⟨_, rfl⟩
  have F : Hid (szL ([d.name.size] ++ (d.head.lens ++ ((d.cursors.length :: d.cursors.flatMap CursorD.lens) ++ []))) left = fin) := Lib.hid hfin.symm
  rw [← hfin]
  clear hfin
  by_cases n0 : left - (d.name.size : Int) < 0
  · have E := Lib.hid (show (-1 : Int) = fin by rw [← F.out, szL_append _ _ _ h0, if_pos (by show (if left - (d.name.size : Int) < 0 then (-1 : Int) else left - (d.name.size : Int)) < 0; rw [if_pos n0]; decide)])
    go_enter Tryd.func34, Tryd.ntmps34
    go_wp2_with fail
    go_ret
    exact ⟨ret_int E.out, He.out⟩
  have hz : szL [d.name.size] left = left - (d.name.size : Int) := by show (if left - (d.name.size : Int) < 0 then (-1 : Int) else left - (d.name.size : Int)) = _; rw [if_neg n0]
  have F2 : Hid (szL (d.head.lens ++ ((d.cursors.length :: d.cursors.flatMap CursorD.lens) ++ [])) (left - (d.name.size : Int)) = fin) := Lib.hid (by rw [← F.out, szL_append _ _ _ h0, hz, if_neg n0])
  clear F hz
  obtain ⟨q0, hq⟩ : ∃ q, q = left - (d.name.size : Int) := ⟨_, rfl⟩
  rw [← hq] at F2
  have hw : IntKind.i64.wrap (left - (d.name.size : Int)) = q0 := by rw [hq]; exact IntWalk.i64_in _ (by omega)
  have u0 : 0 ≤ q0 := by omega
  have v0 : q0 ≤ 1048576 := by omega
  have F := F2
  clear F2 hq
  go_enter Tryd.func34, Tryd.ntmps34
  go_wp2_with fail
  refine (szHead_any d.head q0 _ K_head.out u0 v0).mono ?_
  rintro e w2 ⟨rfl, hx⟩
  have K1 := K0.out.ext hx; have he := He.out.next hx; clear hx K0 He
  obtain ⟨r0, m0⟩ := K1.rules
  have hp := szL_pos d.head.lens q0 u0
  have hqq := szL_le d.head.lens q0
  by_cases n1 : szL d.head.lens q0 < 0
  · have E := Lib.hid (show (-1 : Int) = fin by rw [← F.out, szL_append _ _ _ u0, if_pos n1])
    have ev : szL d.head.lens q0 = -1 := by omega
    clear hp hqq F
    go_wp2_with fail
    go_ret
    exact ⟨ret_int E.out, he⟩
  have F2 : Hid (szL ((d.cursors.length :: d.cursors.flatMap CursorD.lens) ++ []) (szL d.head.lens q0) = fin) := Lib.hid (by rw [← F.out, szL_append _ _ _ u0, if_neg n1])
  clear F
  have u1 : 0 ≤ szL d.head.lens q0 := by omega
  have v1 : szL d.head.lens q0 ≤ 1048576 := by omega
  clear hp hqq
  generalize szL d.head.lens q0 = q1 at *
  have F := F2
  clear F2
  go_wp2_with fail
  refine (szCursorS_any A0 c0 d.cursors q1 _ (S0.out.ext he).reads K_cursors.out S0.out.len u1 v1).mono ?_
  rintro e w3 ⟨rfl, hx⟩
  replace K1 := K1.ext hx; replace he := he.next hx; clear hx r0 m0
  obtain ⟨r0, m0⟩ := K1.rules
  have hp := szL_pos (d.cursors.length :: d.cursors.flatMap CursorD.lens) q1 u1
  have hqq := szL_le (d.cursors.length :: d.cursors.flatMap CursorD.lens) q1
  by_cases n2 : szL (d.cursors.length :: d.cursors.flatMap CursorD.lens) q1 < 0
  · have E := Lib.hid (show (-1 : Int) = fin by rw [← F.out, szL_append _ _ _ u1, if_pos n2])
    have ev : szL (d.cursors.length :: d.cursors.flatMap CursorD.lens) q1 = -1 := by omega
    clear hp hqq F
    go_wp2_with fail
    go_ret
    exact ⟨ret_int E.out, he⟩
  have F2 : Hid (szL ([]) (szL (d.cursors.length :: d.cursors.flatMap CursorD.lens) q1) = fin) := Lib.hid (by rw [← F.out, szL_append _ _ _ u1, if_neg n2])
  clear F
  have u2 : 0 ≤ szL (d.cursors.length :: d.cursors.flatMap CursorD.lens) q1 := by omega
  have v2 : szL (d.cursors.length :: d.cursors.flatMap CursorD.lens) q1 ≤ 1048576 := by omega
  clear hp hqq
  generalize szL (d.cursors.length :: d.cursors.flatMap CursorD.lens) q1 = q2 at *
  have F := F2
  clear F2
  go_wp2_with fail
  go_ret
  exact ⟨ret_int (show q2 = fin from F.out), he⟩
set_option maxHeartbeats 4000000 in
set_option maxRecDepth 100000 in
theorem toClient_any (d : ClientD) (A0 : Option Addr) (c0 : Nat) (w : World) (s0 : SlF AnyB CursorD.cells 3 w A0 d.cursors c0) (hf : ∀ n ∈ d.lens, n ≤ 1048576) :
    Calls Tryd.prog 43 #[.agg #[.int .i64 d.width, .string d.name, .int .i64 d.head.number, .int .i64 d.head.size, .string d.head.root, .int .i64 d.head.taken, .string d.head.takenRoot, .slice A0 d.cursors.length c0]] w fun e w' => ∃ cs, e = .returned (.agg cs.toArray) ∧ ClientD.In (FromB w.heap.size) w' cs d ∧ Ext w w' := by
  have l_cursors : d.cursors.length ≤ 1048576 := hf _ (by simp [ClientD.lens])
  have S0 := Lib.hid s0; clear s0
  clear hf
  go_enter Tryd.func43, Tryd.ntmps43
  go_wp2_with fail
  have HE : Ext w (((w.alloc (.cells #[.int .i64 d.width, .string d.name, .int .i64 d.head.number, .int .i64 d.head.size, .string d.head.root, .int .i64 d.head.taken, .string d.head.takenRoot, .slice A0 d.cursors.length c0] 92)).alloc (.cells #[.int .i64 0, .string ⟨#[]⟩, .int .i64 0, .int .i64 0, .string ⟨#[]⟩, .int .i64 0, .string ⟨#[]⟩, .slice none 0 0] 112)).alloc (.cells #[.int .i64 d.width, .string d.name, .int .i64 0, .int .i64 0, .string ⟨#[]⟩, .int .i64 0, .string ⟨#[]⟩, .slice none 0 0] 112)) := Ext.new (Ext.new (Ext.new (Below.refl _ w) _) _) _
  refine (toHead_any d.head _).mono ?_
  rintro e x2 ⟨rfl, hx⟩
  have B0 := (((Blk.new _ _ _).alloc _).alloc _).ext hx
  have B1 := ((Blk.new _ _ _).alloc _).ext hx
  have B2 := (Blk.new _ _ _).ext hx
  have he := HE.next hx
  have hgs : w.heap.size + 1 + 1 + 1 ≤ w.heap.size + 1 + 1 + 1 := Nat.le_refl _
  simp only [World.size_alloc] at B1 B2
  clear hx HE hgs
  obtain ⟨r0, f0⟩ := B0.rules
  obtain ⟨r2, f2⟩ := B2.rules
  go_upto_region 5 with fail
  have he_ := ext_setCells (W := w) (g := (w.heap.size + 1 + 1)) (by omega) [.int .i64 d.head.number, .int .i64 d.head.size, .string d.head.root, .int .i64 d.head.taken, .string d.head.takenRoot] 2 x2 he
  have C2 := B2.put 2 [.int .i64 d.head.number, .int .i64 d.head.size, .string d.head.root, .int .i64 d.head.taken, .string d.head.takenRoot] #[.int .i64 d.width, .string d.name, .int .i64 d.head.number, .int .i64 d.head.size, .string d.head.root, .int .i64 d.head.taken, .string d.head.takenRoot, .slice none 0 0] (by simp) rfl
  have C1 := B1.farCells (g' := (w.heap.size + 1 + 1)) (by omega) [.int .i64 d.head.number, .int .i64 d.head.size, .string d.head.root, .int .i64 d.head.taken, .string d.head.takenRoot] 2
  have C0 := B0.farCells (g' := (w.heap.size + 1 + 1)) (by omega) [.int .i64 d.head.number, .int .i64 d.head.size, .string d.head.root, .int .i64 d.head.taken, .string d.head.takenRoot] 2
  clear r0 f0 r2 f2 B0 B1 B2 he
  change Code.wp _ _ _ _ (x2.setCells (w.heap.size + 1 + 1) 2 [.int .i64 d.head.number, .int .i64 d.head.size, .string d.head.root, .int .i64 d.head.taken, .string d.head.takenRoot])
  generalize x2.setCells (w.heap.size + 1 + 1) 2 [.int .i64 d.head.number, .int .i64 d.head.size, .string d.head.root, .int .i64 d.head.taken, .string d.head.takenRoot] = y2 at *
  have B0 := C0; have B1 := C1; have B2 := C2; have he := he_
  clear C0 C1 C2 he_
  obtain ⟨r0, f0⟩ := B0.rules
  obtain ⟨r2, f2⟩ := B2.rules
  go_wp2_with fail
  refine (toCursorS_any A0 c0 d.cursors _ (S0.out.ext he).reads l_cursors).mono ?_
  rintro e x3 ⟨g0, rfl, hg, bg, hx⟩
  have hsz : w.heap.size + 1 + 1 + 1 ≤ y2.heap.size := B2.lt
  replace B0 := B0.ext hx; replace B1 := B1.ext hx; replace B2 := B2.ext hx; replace he := he.next hx
  have T0 : SlF (FromB (w.heap.size + 1 + 1 + 1)) CursorD.cells 3 x3 (some ⟨g0, 0, none⟩) d.cursors d.cursors.length := SlF.new CursorD.cells_length bg l_cursors (show _ ≤ _ by omega)
  clear hx hsz
  clear r0 f0 r2 f2
  obtain ⟨r0, f0⟩ := B0.rules
  obtain ⟨r2, f2⟩ := B2.rules
  go_upto_region 6 with fail
  have he_ := ext_setCells (W := w) (g := (w.heap.size + 1 + 1)) (by omega) [.slice (some ⟨g0, 0, none⟩) d.cursors.length d.cursors.length] 7 x3 he
  have C2 := B2.put 7 [.slice (some ⟨g0, 0, none⟩) d.cursors.length d.cursors.length] #[.int .i64 d.width, .string d.name, .int .i64 d.head.number, .int .i64 d.head.size, .string d.head.root, .int .i64 d.head.taken, .string d.head.takenRoot, .slice (some ⟨g0, 0, none⟩) d.cursors.length d.cursors.length] (by simp) rfl
  have C1 := B1.farCells (g' := (w.heap.size + 1 + 1)) (by omega) [.slice (some ⟨g0, 0, none⟩) d.cursors.length d.cursors.length] 7
  have C0 := B0.farCells (g' := (w.heap.size + 1 + 1)) (by omega) [.slice (some ⟨g0, 0, none⟩) d.cursors.length d.cursors.length] 7
  replace T0 := T0.keep (Keep.setCells (g := (w.heap.size + 1 + 1)) (by unfold FromB; omega) [.slice (some ⟨g0, 0, none⟩) d.cursors.length d.cursors.length] 7 x3)
  clear r0 f0 r2 f2 B0 B1 B2 he
  change Code.wp _ _ _ _ (x3.setCells (w.heap.size + 1 + 1) 7 [.slice (some ⟨g0, 0, none⟩) d.cursors.length d.cursors.length])
  generalize x3.setCells (w.heap.size + 1 + 1) 7 [.slice (some ⟨g0, 0, none⟩) d.cursors.length d.cursors.length] = y3 at *
  have B0 := C0; have B1 := C1; have B2 := C2; have he := he_
  clear C0 C1 C2 he_
  obtain ⟨r0, f0⟩ := B0.rules
  obtain ⟨r2, f2⟩ := B2.rules
  obtain ⟨r1, f1⟩ := B1.rules
  go_wp2_with fail
  have he_ := ext_setCells (W := w) (g := w.heap.size + 1) (by omega) [.int .i64 d.width, .string d.name, .int .i64 d.head.number, .int .i64 d.head.size, .string d.head.root, .int .i64 d.head.taken, .string d.head.takenRoot, .slice (some ⟨g0, 0, none⟩) d.cursors.length d.cursors.length] 0 y3 he
  have E1 := B1.put 0 [.int .i64 d.width, .string d.name, .int .i64 d.head.number, .int .i64 d.head.size, .string d.head.root, .int .i64 d.head.taken, .string d.head.takenRoot, .slice (some ⟨g0, 0, none⟩) d.cursors.length d.cursors.length] #[.int .i64 d.width, .string d.name, .int .i64 d.head.number, .int .i64 d.head.size, .string d.head.root, .int .i64 d.head.taken, .string d.head.takenRoot, .slice (some ⟨g0, 0, none⟩) d.cursors.length d.cursors.length] (by simp) rfl
  replace T0 := T0.keep (Keep.setCells (g := w.heap.size + 1) (by unfold FromB; omega) [.int .i64 d.width, .string d.name, .int .i64 d.head.number, .int .i64 d.head.size, .string d.head.root, .int .i64 d.head.taken, .string d.head.takenRoot, .slice (some ⟨g0, 0, none⟩) d.cursors.length d.cursors.length] 0 y3)
  change bodyPost _ _ _ _ _ (y3.setCells (w.heap.size + 1) 0 [.int .i64 d.width, .string d.name, .int .i64 d.head.number, .int .i64 d.head.size, .string d.head.root, .int .i64 d.head.taken, .string d.head.takenRoot, .slice (some ⟨g0, 0, none⟩) d.cursors.length d.cursors.length])
  clear r0 f0 r1 f1 r2 f2 B0 B1 B2 he
  generalize y3.setCells (w.heap.size + 1) 0 [.int .i64 d.width, .string d.name, .int .i64 d.head.number, .int .i64 d.head.size, .string d.head.root, .int .i64 d.head.taken, .string d.head.takenRoot, .slice (some ⟨g0, 0, none⟩) d.cursors.length d.cursors.length] = z at *
  exact ret_row rfl rfl E1 Tryd.underlying112 rfl (by kernel_rfl) rfl ⟨[.int .i64 d.width, .string d.name, .int .i64 d.head.number, .int .i64 d.head.size, .string d.head.root, .int .i64 d.head.taken, .string d.head.takenRoot, .slice (some ⟨g0, 0, none⟩) d.cursors.length d.cursors.length], rfl, ⟨_, _, rfl, T0.mono (fun b hb => by unfold FromB at *; omega)⟩, he_⟩
set_option maxHeartbeats 2000000 in
set_option maxRecDepth 100000 in
theorem eqClient_same (d : ClientD) (A0 : Option Addr) (c0 : Nat) (B0 : Option Addr) (e0 : Nat) (w : World) (s0 : SlF AnyB CursorD.cells 3 w A0 d.cursors c0) (t0 : SlF AnyB CursorD.cells 3 w B0 d.cursors e0) (hf : ∀ n ∈ d.lens, n ≤ 1048576) :
    Calls Tryd.prog 52 #[.agg #[.int .i64 d.width, .string d.name, .int .i64 d.head.number, .int .i64 d.head.size, .string d.head.root, .int .i64 d.head.taken, .string d.head.takenRoot, .slice A0 d.cursors.length c0], .agg #[.int .i64 d.width, .string d.name, .int .i64 d.head.number, .int .i64 d.head.size, .string d.head.root, .int .i64 d.head.taken, .string d.head.takenRoot, .slice B0 d.cursors.length e0]] w fun e w' => e = .returned (.bool true) ∧ Ext w w' := by
  have l_cursors : d.cursors.length ≤ 1048576 := hf _ (by simp [ClientD.lens])
  have S0 := Lib.hid s0; have T0 := Lib.hid t0; clear s0 t0
  clear hf
  obtain ⟨K0, K1, he⟩ := two_new w #[.int .i64 d.width, .string d.name, .int .i64 d.head.number, .int .i64 d.head.size, .string d.head.root, .int .i64 d.head.taken, .string d.head.takenRoot, .slice A0 d.cursors.length c0] #[.int .i64 d.width, .string d.name, .int .i64 d.head.number, .int .i64 d.head.size, .string d.head.root, .int .i64 d.head.taken, .string d.head.takenRoot, .slice B0 d.cursors.length e0] 112 112
  go_enter Tryd.func52, Tryd.ntmps52
  obtain ⟨r0, f0⟩ := K0.rules
  obtain ⟨r1, f1⟩ := K1.rules
  go_wp2_with fail
  obtain ⟨g, hg⟩ : ∃ g, g = w.heap.size := ⟨_, rfl⟩
  rw [← hg] at K0 K1
  rw [← hg]
  clear hg r0 f0 r1 f1
  refine (eqHead_same d.head _).mono ?_
  rintro e x2 ⟨rfl, hx⟩
  replace K0 := K0.ext hx; replace K1 := K1.ext hx; replace he := he.next hx; clear hx
  obtain ⟨r0, f0⟩ := K0.rules
  obtain ⟨r1, f1⟩ := K1.rules
  go_wp2_with fail
  clear r0 f0 r1 f1
  refine (eqCursorS_same A0 B0 c0 e0 d.cursors _ (S0.out.ext he).reads (T0.out.ext he).reads l_cursors).mono ?_
  rintro e x3 ⟨rfl, hx⟩
  replace K0 := K0.ext hx; replace K1 := K1.ext hx; replace he := he.next hx; clear hx
  obtain ⟨r0, f0⟩ := K0.rules
  obtain ⟨r1, f1⟩ := K1.rules
  go_wp2_with fail
  clear r0 f0 r1 f1
  go_ret
  exact ⟨rfl, he⟩
set_option maxHeartbeats 2000000 in
set_option maxRecDepth 100000 in
theorem szClientS_any (A : Option Addr) (c : Nat) (l : List ClientD) (left : Int) (w : World) (hr : SlN AnyB ClientD.In 8 w A l c) (hok : ∀ d ∈ l, d.Ok) (h0 : 0 ≤ left) (h1 : left ≤ 1048576) :
    Calls Tryd.prog 11 #[.slice A l.length c, .int .i64 left] w fun e w' => e = .returned (.int .i64 (szL (l.length :: l.flatMap ClientD.lens) left)) ∧ Ext w w' := by
  have hl := hr.len
  unfold maxLen at hl
  have Hok := Lib.hid hok; clear hok
  have Hr := Lib.hid hr; clear hr
  by_cases c0 : left - (l.length : Int) < 0
  · go_enter Tryd.func11, Tryd.ntmps11
    go_wp2_with fail
    go_ret
    exact ⟨ret_int (by simp only [szL]; rw [if_pos c0]), by go_grown⟩
  · obtain ⟨fin, hfin⟩ : ∃ fin, fin = szL (l.length :: l.flatMap ClientD.lens) left := ⟨_, rfl⟩
    have Hi : SzInv ClientD.lens l fin 0 (left - l.length) := by
      refine ⟨by omega, by omega, ?_⟩
      rw [hfin]; simp only [szL, List.drop_zero]; rw [if_neg c0]
    rw [← hfin]; clear hfin
    go_enter Tryd.func11, Tryd.ntmps11
    go_wp2_with fail
    go_loopw [1, 5] (fun r i wr => ∃ (k : Nat) (q : Int), k ≤ l.length ∧ i = .int .i64 k ∧ r = .int .i64 q ∧ 0 ≤ q ∧ q ≤ 1048576 ∧ SzInv ClientD.lens l fin k q ∧ Ext w wr) (fun _ i _ => l.length - (intOf i).toNat)
    case atStart => exact ⟨0, _, Nat.zero_le _, rfl, rfl, by omega, by omega, Hi, Below.refl _ _⟩
    case round =>
      obtain ⟨k, q, hk, rfl, rfl, q0, q1, hi, he⟩ := hrel
      by_cases hlt : k < l.length
      · obtain ⟨p1, p2⟩ := hi.step hlt
        obtain ⟨b, off, cs, rfl, hb, hcl, hR, hc⟩ := (SlN.ext ClientD.steady Hr.out he).at_ (k := k) hlt
        obtain ⟨d, hd⟩ : ∃ d, d = l[k] := ⟨_, rfl⟩
        have hdo : d.Ok := Hok.out d (by rw [hd]; exact List.getElem_mem hlt)
        rw [← hd] at p1 p2 hR
        obtain ⟨A0, c0, rfl, s0⟩ := hR
        have y0 := hc 0 _ (by decide) rfl
        have y1 := hc 1 _ (by decide) rfl
        have y2 := hc 2 _ (by decide) rfl
        have y3 := hc 3 _ (by decide) rfl
        have y4 := hc 4 _ (by decide) rfl
        have y5 := hc 5 _ (by decide) rfl
        have y6 := hc 6 _ (by decide) rfl
        have y7 := hc 7 _ (by decide) rfl
        rw [Nat.add_zero] at y0
        clear hc hd hcl
        have Q1 := Lib.hid p1; have Q2 := Lib.hid p2; clear p1 p2
        have S0 := Lib.hid s0; clear s0
        go_wp2_with fail
        refine (szClient_any d A0 c0 q _ hdo S0.out q0 q1).mono ?_
        rintro e w1 ⟨rfl, h1⟩
        replace he := he.next h1; clear h1
        have hp := szL_pos d.lens q q0
        have hq := szL_le d.lens q
        by_cases hn : szL d.lens q < 0
        · have E1 := Lib.hid (Q1.out hn)
          have e2 : szL d.lens q = -1 := by rcases hp with h | h <;> omega
          clear hp hq Q1 Q2 Hi hi
          go_wp2_with fail
          go_ret
          exact ⟨ret_int E1.out.symm, he⟩
        · have H2 := Lib.hid (Q2.out (by omega))
          have n0 : 0 ≤ szL d.lens q := by omega
          have n1 : szL d.lens q ≤ 1048576 := by rcases hq with h | h <;> omega
          clear hp hq Q1 Q2 Hi hi
          go_wp2_with fail
          go_roundw
          case rel => exact ⟨k + 1, _, by omega, by go_num, rfl, n0, n1, H2.out, he⟩
          case measure => simp [intOf]; omega
      · have E1 := Lib.hid (hi.done (by omega))
        clear Hi hi
        go_wp2_with fail
        go_ret
        exact ⟨ret_int E1.out, he⟩
set_option maxHeartbeats 2000000 in
set_option maxRecDepth 100000 in
theorem toClientS_any (A : Option Addr) (c : Nat) (l : List ClientD) (w : World) (hr : SlN AnyB ClientD.In 8 w A l c) (hl : l.length ≤ 1048576) (hf : ∀ x ∈ l, ∀ n ∈ x.lens, n ≤ 1048576) :
    Calls Tryd.prog 19 #[.slice A l.length c] w fun e w' => ∃ g, e = .returned (.slice (some ⟨g, 0, none⟩) l.length l.length) ∧ w.heap.size ≤ g ∧ SlN (FromB w.heap.size) ClientD.In 8 w' (some ⟨g, 0, none⟩) l l.length ∧ Ext w w' := by
  obtain ⟨Z, hZ, hmk⟩ := make_any (P := Tryd.prog) (t := 57) (e := 112) (size := 8) (bytes := 104) l.length Tryd.underlying57 (by kernel_rfl) (by omega) hl
  have HZ := Lib.hid hZ; clear hZ
  have Hr := Lib.hid hr; clear hr
  have Hf := Lib.hid hf; clear hf
  have Hs := Lib.hid (FilledN.start ClientD.In 8 112 l w Z)
  have He := Lib.hid (Ext.new (Below.refl w.heap.size w) (.cells Z 112))
  go_enter Tryd.func19, Tryd.ntmps19
  go_wp2_with fail
  obtain ⟨g, hg⟩ : ∃ g, g = w.heap.size := ⟨_, rfl⟩
  rw [← hg]
  rw [← hg] at Hs
  have hg0 : w.heap.size ≤ g := by omega
  clear hg
  go_loopw [4] (fun i wr => ∃ (k : Nat), k ≤ l.length ∧ i = .int .i64 k ∧ FilledN ClientD.In 8 112 l g Z k wr ∧ Ext w wr) (fun i _ => l.length - (intOf i).toNat)
  case atStart => exact ⟨0, Nat.zero_le _, rfl, Hs.out, He.out⟩
  case round =>
    obtain ⟨k, hk, rfl, hi, he⟩ := hrel
    clear Hs He
    by_cases hlt : k < l.length
    · obtain ⟨b, off, cs, rfl, hb, hcl, hR, hc⟩ := (SlN.ext ClientD.steady Hr.out he).at_ (k := k) hlt
      obtain ⟨d, hd⟩ : ∃ d, d = l[k] := ⟨_, rfl⟩
      have hfd := Hf.out _ (List.getElem_mem hlt)
      rw [← hd] at hR hfd
      obtain ⟨A0, c0, rfl, s0⟩ := hR
      have y0 := hc 0 _ (by decide) rfl
      have y1 := hc 1 _ (by decide) rfl
      have y2 := hc 2 _ (by decide) rfl
      have y3 := hc 3 _ (by decide) rfl
      have y4 := hc 4 _ (by decide) rfl
      have y5 := hc 5 _ (by decide) rfl
      have y6 := hc 6 _ (by decide) rfl
      have y7 := hc 7 _ (by decide) rfl
      rw [Nat.add_zero] at y0
      have Hd := Lib.hid hd
      clear hc hd hcl
      have hgl := hi.lt
      have KI := Lib.hid hi; clear hi
      have S0 := Lib.hid s0; clear s0
      have Hfd := Lib.hid hfd; clear hfd
      go_wp2_with fail
      refine (toClient_any d A0 c0 _ S0.out Hfd.out).mono ?_
      rintro e w1 ⟨cs, rfl, hin, h1⟩
      have hi := FilledN.ext ClientD.steady KI.out h1
      replace he := he.next h1
      clear h1 KI y0 y1 y2 y3 y4 y5 y6 y7
      have hin2 : ClientD.In (FromB (g + 1)) w1 cs l[k] := by rw [← Hd.out]; exact ClientD.steady.mono hin (fun b hb => by unfold FromB at *; omega)
      have Hn := Lib.hid (hi.step ClientD.steady HZ.out hlt (ClientD.in_len hin2) hin2)
      have ht := hi.there HZ.out hlt
      obtain ⟨A0, c0, rfl, _⟩ := hin
      clear hin2
      have hz := hi.frozen
      obtain ⟨v0, z0⟩ := Option.isSome_iff_exists.1 (ht 0 (by omega)).1
      obtain ⟨v1, z1⟩ := Option.isSome_iff_exists.1 (ht 1 (by omega)).1
      obtain ⟨v2, z2⟩ := Option.isSome_iff_exists.1 (ht 2 (by omega)).1
      obtain ⟨v3, z3⟩ := Option.isSome_iff_exists.1 (ht 3 (by omega)).1
      obtain ⟨v4, z4⟩ := Option.isSome_iff_exists.1 (ht 4 (by omega)).1
      obtain ⟨v5, z5⟩ := Option.isSome_iff_exists.1 (ht 5 (by omega)).1
      obtain ⟨v6, z6⟩ := Option.isSome_iff_exists.1 (ht 6 (by omega)).1
      obtain ⟨v7, z7⟩ := Option.isSome_iff_exists.1 (ht 7 (by omega)).1
      rw [Nat.add_zero] at z0
      clear ht hi
      have He2 := Lib.hid (ext_setCells (g := g) (W := w) hg0 [.int .i64 d.width, .string d.name, .int .i64 d.head.number, .int .i64 d.head.size, .string d.head.root, .int .i64 d.head.taken, .string d.head.takenRoot, .slice A0 d.cursors.length c0] (k * 8) w1 he)
      go_wp2_with fail
      go_roundw
      case rel => exact ⟨k + 1, by omega, by go_num, Hn.out, He2.out⟩
      case measure => simp [intOf]; omega
    · have Hf2 := Lib.hid (hi.done ClientD.steady HZ.out (by omega) hl (p := FromB w.heap.size) (fun b hb => by unfold FromB; omega))
      clear hi
      go_wp2_with fail
      go_ret
      exact ⟨g, rfl, hg0, Hf2.out, he⟩
set_option maxHeartbeats 2000000 in
set_option maxRecDepth 100000 in
theorem eqClientS_same (A A' : Option Addr) (c c' : Nat) (l : List ClientD) (w : World) (hr : SlN AnyB ClientD.In 8 w A l c) (hr' : SlN AnyB ClientD.In 8 w A' l c') (hl : l.length ≤ 1048576) (hf : ∀ x ∈ l, ∀ n ∈ x.lens, n ≤ 1048576) :
    Calls Tryd.prog 26 #[.slice A l.length c, .slice A' l.length c'] w fun e w' => e = .returned (.bool true) ∧ Ext w w' := by
  have Hr := Lib.hid hr; clear hr
  have Hr2 := Lib.hid hr'; clear hr'
  have Hf := Lib.hid hf; clear hf
  go_enter Tryd.func26, Tryd.ntmps26
  go_wp2_with fail
  go_loopw [5] (fun i wr => ∃ (k : Nat), k ≤ l.length ∧ i = .int .i64 k ∧ Ext w wr) (fun i _ => l.length - (intOf i).toNat)
  case atStart => exact ⟨0, Nat.zero_le _, rfl, Below.refl _ _⟩
  case round =>
    obtain ⟨k, hk, rfl, he⟩ := hrel
    by_cases hlt : k < l.length
    · obtain ⟨b, off, cs, rfl, hb, hcl, hR, hc⟩ := (SlN.ext ClientD.steady Hr.out he).at_ (k := k) hlt
      obtain ⟨b', off', cs', rfl, hb', hcl', hR', hc'⟩ := (SlN.ext ClientD.steady Hr2.out he).at_ (k := k) hlt
      obtain ⟨d, hd⟩ : ∃ d, d = l[k] := ⟨_, rfl⟩
      have Hfd := Lib.hid (Hf.out _ (List.getElem_mem hlt))
      rw [← hd] at hR hR' Hfd
      obtain ⟨A0, c0, rfl, s0⟩ := hR
      obtain ⟨B0, e0, rfl, t0⟩ := hR'
      have y0 := hc 0 _ (by decide) rfl
      have y1 := hc 1 _ (by decide) rfl
      have y2 := hc 2 _ (by decide) rfl
      have y3 := hc 3 _ (by decide) rfl
      have y4 := hc 4 _ (by decide) rfl
      have y5 := hc 5 _ (by decide) rfl
      have y6 := hc 6 _ (by decide) rfl
      have y7 := hc 7 _ (by decide) rfl
      have u0 := hc' 0 _ (by decide) rfl
      have u1 := hc' 1 _ (by decide) rfl
      have u2 := hc' 2 _ (by decide) rfl
      have u3 := hc' 3 _ (by decide) rfl
      have u4 := hc' 4 _ (by decide) rfl
      have u5 := hc' 5 _ (by decide) rfl
      have u6 := hc' 6 _ (by decide) rfl
      have u7 := hc' 7 _ (by decide) rfl
      rw [Nat.add_zero] at y0 u0
      clear hc hc' hd hcl hcl'
      have S0 := Lib.hid s0; have T0 := Lib.hid t0; clear s0 t0
      go_wp2_with fail
      go_still_tail 8, (by kernel_rfl)
      have he0 : Ext wr wr.drew := ⟨rfl, rfl, rfl, Nat.le_refl _, fun _ _ => rfl⟩
      change wpList _ _ _ _ _ wr.drew
      generalize hw : wr.drew = w2 at *
      have he2 : Ext w w2 := he.next he0
      clear hw he
      go_wp2_with fail
      refine (eqClient_same d A0 c0 B0 e0 _ (S0.out.ext he0) (T0.out.ext he0) Hfd.out).mono ?_
      rintro e w1 ⟨rfl, h1⟩
      replace he2 := he2.next h1; clear h1 he0 y0 y1 y2 y3 y4 y5 y6 y7 u0 u1 u2 u3 u4 u5 u6 u7
      go_wp2_with fail
      go_roundw
      case rel => exact ⟨k + 1, by omega, by go_num, he2⟩
      case measure => simp [intOf]; omega
    · go_wp2_with fail
      go_ret
      exact ⟨rfl, he⟩
end Go.Proofs.YtichegndafnjeaaDoor
