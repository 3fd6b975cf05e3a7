/-
  What Scanner is in memory; the laws' own functions at it: walks. Written by program (gen_nest.py). No condition.
-/
import Derived.Test.YtcpfgldcijkhlaaNest
import Derived.Test.YtcpfgldcijkhlaaNClient
import Derived.Test.YtcpfgldcijkhlaaConvCursor
import Derived.StillTailTactics
namespace Go.Proofs.Ytcpfgldcijkhlaa
open Go.RowKit
set_option linter.unusedVariables false

structure ScannerD where
  client : ClientD
  leaf : Int
  topics : List CursorD
def ScannerD.In : Rep ScannerD := fun p w cs d => ∃ (A0 : Option Addr) (c0 : Nat) (A1 : Option Addr) (c1 : Nat), cs = [.int .i64 d.client.width, .string d.client.name, .int .i64 d.client.head.number, .int .i64 d.client.head.size, .string d.client.head.root, .int .i64 d.client.head.taken, .string d.client.head.takenRoot, .slice A0 d.client.cursors.length c0, .int .i64 d.leaf, .slice A1 d.topics.length c1] ∧ SlF p CursorD.cells 3 w A0 d.client.cursors c0 ∧ SlF p CursorD.cells 3 w A1 d.topics c1
theorem ScannerD.steady : Steady ScannerD.In := ⟨fun h k => by obtain ⟨A0, c0, A1, c1, rfl, s0, s1⟩ := h; exact ⟨_, _, _, _, rfl, s0.keep k, s1.keep k⟩, fun h k => by obtain ⟨A0, c0, A1, c1, rfl, s0, s1⟩ := h; exact ⟨_, _, _, _, rfl, s0.mono k, s1.mono k⟩⟩
theorem ScannerD.in_len {p : Nat → Prop} {w : World} {cs : List Value} {d : ScannerD} (h : ScannerD.In p w cs d) : cs.length = 10 := by obtain ⟨A0, c0, A1, c1, rfl, _⟩ := h; rfl
def ScannerD.Ok (d : ScannerD) : Prop := d.client.Ok ∧ (Lit.int .i64 d.leaf).wf = true ∧ (∀ x ∈ d.topics, x.Ok)
def ScannerD.lens (d : ScannerD) : List Nat := d.client.lens ++ ((d.topics.length :: d.topics.flatMap CursorD.lens) ++ [])
set_option maxRecDepth 100000 in
theorem ScannerD.typed {w : World} {n : Nat} {cs : List Value} (h : Typed Try.prog w n 95 cs) : ∃ d : ScannerD, ScannerD.In AnyB w cs d ∧ d.Ok := by
  obtain ⟨hl, m, hf⟩ := typed_struct Try.underlying95 h
  have hC : Try.prog.cellsOf 95 = 10 := by kernel_rfl
  have hs0 : Try.prog.cellsOf 42 = 8 := by kernel_rfl
  have hs1 : Try.prog.cellsOf 3 = 1 := by kernel_rfl
  have hs2 : Try.prog.cellsOf 40 = 1 := by kernel_rfl
  rw [hC] at hl
  match cs, hl with
  | [x0, x1, x2, x3, x4, x5, x6, x7, x8, x9], _ =>
    have f0 := hf _ (List.mem_iff_getElem?.2 ⟨0, rfl⟩)
    simp only [hs0, List.drop_zero, List.take_succ_cons, List.take_zero] at f0
    obtain ⟨a0, i0, w0⟩ := ClientD.typed f0
    obtain ⟨A0, c0, e0, s0⟩ := i0
    simp only [List.cons.injEq, and_true] at e0
    obtain ⟨rfl, rfl, rfl, rfl, rfl, rfl, rfl, rfl⟩ := e0
    have f1 := hf _ (List.mem_iff_getElem?.2 ⟨1, rfl⟩)
    simp only [hs1, List.drop_succ_cons, List.drop_zero, List.take_succ_cons, List.take_zero] at f1
    obtain ⟨a1, e1, w1⟩ := typed_int Try.underlying3 f1
    obtain rfl : x8 = _ := by simpa using e1
    have f2 := hf _ (List.mem_iff_getElem?.2 ⟨2, rfl⟩)
    simp only [hs2, List.drop_succ_cons, List.drop_zero, List.take_succ_cons, List.take_zero] at f2
    obtain ⟨A1, c1, a2, e2, s1, w2⟩ := typed_sliceF CursorD.cells CursorD.Ok 3 Try.underlying40 (by kernel_rfl) (by decide) CursorD.cells_length (fun m es h => CursorD.typed h) f2
    obtain rfl : x9 = _ := by simpa using e2
    exact ⟨⟨a0, a1, a2⟩, ⟨_, _, _, _, rfl, s0, s1⟩, w0, w1, w2⟩
set_option maxHeartbeats 2000000 in
set_option maxRecDepth 100000 in
theorem szScanner_any (d : ScannerD) (A0 : Option Addr) (c0 : Nat) (A1 : Option Addr) (c1 : Nat) (left : Int) (w : World) (hok : d.Ok) (s0 : SlF AnyB CursorD.cells 3 w A0 d.client.cursors c0) (s1 : SlF AnyB CursorD.cells 3 w A1 d.topics c1) (h0 : 0 ≤ left) (h1 : left ≤ 1048576) :
    Calls Try.prog 53 #[.agg #[.int .i64 d.client.width, .string d.client.name, .int .i64 d.client.head.number, .int .i64 d.client.head.size, .string d.client.head.root, .int .i64 d.client.head.taken, .string d.client.head.takenRoot, .slice A0 d.client.cursors.length c0, .int .i64 d.leaf, .slice A1 d.topics.length c1], .int .i64 left] w fun e w' => e = .returned (.int .i64 (szL d.lens left)) ∧ Ext w w' := by
  obtain ⟨k_client, -, k_topics⟩ := hok
  have S0 := Lib.hid s0; clear s0
  have S1 := Lib.hid s1; clear s1
  have K_client := Lib.hid k_client; clear k_client
  have K_topics := Lib.hid k_topics; clear k_topics
  have K0 := Lib.hid (Blk.new w 95 #[.int .i64 d.client.width, .string d.client.name, .int .i64 d.client.head.number, .int .i64 d.client.head.size, .string d.client.head.root, .int .i64 d.client.head.taken, .string d.client.head.takenRoot, .slice A0 d.client.cursors.length c0, .int .i64 d.leaf, .slice A1 d.topics.length c1])
  have He := Lib.hid (Ext.new (Below.refl w.heap.size w) (.cells #[.int .i64 d.client.width, .string d.client.name, .int .i64 d.client.head.number, .int .i64 d.client.head.size, .string d.client.head.root, .int .i64 d.client.head.taken, .string d.client.head.takenRoot, .slice A0 d.client.cursors.length c0, .int .i64 d.leaf, .slice A1 d.topics.length c1] 95))
  obtain ⟨fin, hfin⟩ : ∃ fin, fin = szL d.lens left := ⟨_, rfl⟩
  have F : Hid (szL (d.client.lens ++ ((d.topics.length :: d.topics.flatMap CursorD.lens) ++ [])) left = fin) := Lib.hid hfin.symm
  rw [← hfin]
  clear hfin
  go_enter Try.func53, Try.ntmps53
  go_wp2_with fail
  refine (szClient_any d.client A0 c0 left _ K_client.out (S0.out.ext He.out) h0 h1).mono ?_
  rintro e w1 ⟨rfl, hx⟩
  have K1 := K0.out.ext hx; have he := He.out.next hx; clear hx K0 He
  obtain ⟨r0, m0⟩ := K1.rules
  have hp := szL_pos d.client.lens left h0
  have hqq := szL_le d.client.lens left
  by_cases n0 : szL d.client.lens left < 0
  · have E := Lib.hid (show (-1 : Int) = fin by rw [← F.out, szL_append _ _ _ h0, if_pos n0])
    have ev : szL d.client.lens left = -1 := by omega
    clear hp hqq F
    go_wp2_with fail
    go_ret
    exact ⟨ret_int E.out, he⟩
  have F2 : Hid (szL ((d.topics.length :: d.topics.flatMap CursorD.lens) ++ []) (szL d.client.lens left) = fin) := Lib.hid (by rw [← F.out, szL_append _ _ _ h0, if_neg n0])
  clear F
  have u0 : 0 ≤ szL d.client.lens left := by omega
  have v0 : szL d.client.lens left ≤ 1048576 := by omega
  clear hp hqq
  generalize szL d.client.lens left = q0 at *
  have F := F2
  clear F2
  go_wp2_with fail
  refine (szCursorS_any A1 c1 d.topics q0 _ (S1.out.ext he).reads K_topics.out S1.out.len u0 v0).mono ?_
  rintro e w2 ⟨rfl, hx⟩
  replace K1 := K1.ext hx; replace he := he.next hx; clear hx r0 m0
  obtain ⟨r0, m0⟩ := K1.rules
  have hp := szL_pos (d.topics.length :: d.topics.flatMap CursorD.lens) q0 u0
  have hqq := szL_le (d.topics.length :: d.topics.flatMap CursorD.lens) q0
  by_cases n1 : szL (d.topics.length :: d.topics.flatMap CursorD.lens) q0 < 0
  · have E := Lib.hid (show (-1 : Int) = fin by rw [← F.out, szL_append _ _ _ u0, if_pos n1])
    have ev : szL (d.topics.length :: d.topics.flatMap CursorD.lens) q0 = -1 := by omega
    clear hp hqq F
    go_wp2_with fail
    go_ret
    exact ⟨ret_int E.out, he⟩
  have F2 : Hid (szL ([]) (szL (d.topics.length :: d.topics.flatMap CursorD.lens) q0) = fin) := Lib.hid (by rw [← F.out, szL_append _ _ _ u0, if_neg n1])
  clear F
  have u1 : 0 ≤ szL (d.topics.length :: d.topics.flatMap CursorD.lens) q0 := by omega
  have v1 : szL (d.topics.length :: d.topics.flatMap CursorD.lens) q0 ≤ 1048576 := by omega
  clear hp hqq
  generalize szL (d.topics.length :: d.topics.flatMap CursorD.lens) q0 = q1 at *
  have F := F2
  clear F2
  go_wp2_with fail
  go_ret
  exact ⟨ret_int (show q1 = fin from F.out), he⟩
set_option maxHeartbeats 4000000 in
set_option maxRecDepth 100000 in
theorem toScanner_any (d : ScannerD) (A0 : Option Addr) (c0 : Nat) (A1 : Option Addr) (c1 : Nat) (w : World) (s0 : SlF AnyB CursorD.cells 3 w A0 d.client.cursors c0) (s1 : SlF AnyB CursorD.cells 3 w A1 d.topics c1) (hf : ∀ n ∈ d.lens, n ≤ 1048576) :
    Calls Try.prog 55 #[.agg #[.int .i64 d.client.width, .string d.client.name, .int .i64 d.client.head.number, .int .i64 d.client.head.size, .string d.client.head.root, .int .i64 d.client.head.taken, .string d.client.head.takenRoot, .slice A0 d.client.cursors.length c0, .int .i64 d.leaf, .slice A1 d.topics.length c1]] w fun e w' => ∃ cs, e = .returned (.agg cs.toArray) ∧ ScannerD.In (FromB w.heap.size) w' cs d ∧ Ext w w' := by
  have l_client : ∀ n ∈ d.client.lens, n ≤ 1048576 := fun n hn => hf n (by simp only [ScannerD.lens, List.mem_append]; simp [hn])
  have l_topics : d.topics.length ≤ 1048576 := hf _ (by simp [ScannerD.lens])
  have S0 := Lib.hid s0; clear s0
  have S1 := Lib.hid s1; clear s1
  clear hf
  go_enter Try.func55, Try.ntmps55
  go_wp2_with fail
  have HE : Ext w (((w.alloc (.cells #[.int .i64 d.client.width, .string d.client.name, .int .i64 d.client.head.number, .int .i64 d.client.head.size, .string d.client.head.root, .int .i64 d.client.head.taken, .string d.client.head.takenRoot, .slice A0 d.client.cursors.length c0, .int .i64 d.leaf, .slice A1 d.topics.length c1] 95)).alloc (.cells #[.int .i64 0, .string ⟨#[]⟩, .int .i64 0, .int .i64 0, .string ⟨#[]⟩, .int .i64 0, .string ⟨#[]⟩, .slice none 0 0, .int .i64 0, .slice none 0 0] 99)).alloc (.cells #[.int .i64 0, .string ⟨#[]⟩, .int .i64 0, .int .i64 0, .string ⟨#[]⟩, .int .i64 0, .string ⟨#[]⟩, .slice none 0 0, .int .i64 0, .slice none 0 0] 99)) := Ext.new (Ext.new (Ext.new (Below.refl _ w) _) _) _
  refine (toClient_any d.client A0 c0 _ (S0.out.ext HE) l_client).mono ?_
  rintro e x0 ⟨cs, rfl, ⟨G0, D0, rfl, t0⟩, hx⟩
  have B0 := (((Blk.new _ _ _).alloc _).alloc _).ext hx
  have B1 := ((Blk.new _ _ _).alloc _).ext hx
  have B2 := (Blk.new _ _ _).ext hx
  have he := HE.next hx
  have hgs : w.heap.size + 1 + 1 + 1 ≤ w.heap.size + 1 + 1 + 1 := Nat.le_refl _
  simp only [World.size_alloc] at B1 B2
  have T0 : SlF (FromB (w.heap.size + 1 + 1 + 1)) CursorD.cells 3 x0 G0 d.client.cursors D0 := t0.mono (fun b hb => by unfold FromB at *; simp only [World.size_alloc] at hb; omega)
  clear hx HE hgs
  obtain ⟨r0, f0⟩ := B0.rules
  obtain ⟨r2, f2⟩ := B2.rules
  go_upto_region 3 with fail
  have he_ := ext_setCells (W := w) (g := (w.heap.size + 1 + 1)) (by omega) [.int .i64 d.client.width, .string d.client.name, .int .i64 d.client.head.number, .int .i64 d.client.head.size, .string d.client.head.root, .int .i64 d.client.head.taken, .string d.client.head.takenRoot, .slice G0 d.client.cursors.length D0] 0 x0 he
  have C2 := B2.put 0 [.int .i64 d.client.width, .string d.client.name, .int .i64 d.client.head.number, .int .i64 d.client.head.size, .string d.client.head.root, .int .i64 d.client.head.taken, .string d.client.head.takenRoot, .slice G0 d.client.cursors.length D0] #[.int .i64 d.client.width, .string d.client.name, .int .i64 d.client.head.number, .int .i64 d.client.head.size, .string d.client.head.root, .int .i64 d.client.head.taken, .string d.client.head.takenRoot, .slice G0 d.client.cursors.length D0, .int .i64 0, .slice none 0 0] (by simp) rfl
  have C1 := B1.farCells (g' := (w.heap.size + 1 + 1)) (by omega) [.int .i64 d.client.width, .string d.client.name, .int .i64 d.client.head.number, .int .i64 d.client.head.size, .string d.client.head.root, .int .i64 d.client.head.taken, .string d.client.head.takenRoot, .slice G0 d.client.cursors.length D0] 0
  have C0 := B0.farCells (g' := (w.heap.size + 1 + 1)) (by omega) [.int .i64 d.client.width, .string d.client.name, .int .i64 d.client.head.number, .int .i64 d.client.head.size, .string d.client.head.root, .int .i64 d.client.head.taken, .string d.client.head.takenRoot, .slice G0 d.client.cursors.length D0] 0
  replace T0 := T0.keep (Keep.setCells (g := (w.heap.size + 1 + 1)) (by unfold FromB; omega) [.int .i64 d.client.width, .string d.client.name, .int .i64 d.client.head.number, .int .i64 d.client.head.size, .string d.client.head.root, .int .i64 d.client.head.taken, .string d.client.head.takenRoot, .slice G0 d.client.cursors.length D0] 0 x0)
  clear r0 f0 r2 f2 B0 B1 B2 he
  change Code.wp _ _ _ _ (x0.setCells (w.heap.size + 1 + 1) 0 [.int .i64 d.client.width, .string d.client.name, .int .i64 d.client.head.number, .int .i64 d.client.head.size, .string d.client.head.root, .int .i64 d.client.head.taken, .string d.client.head.takenRoot, .slice G0 d.client.cursors.length D0])
  generalize x0.setCells (w.heap.size + 1 + 1) 0 [.int .i64 d.client.width, .string d.client.name, .int .i64 d.client.head.number, .int .i64 d.client.head.size, .string d.client.head.root, .int .i64 d.client.head.taken, .string d.client.head.takenRoot, .slice G0 d.client.cursors.length D0] = y0 at *
  have B0 := C0; have B1 := C1; have B2 := C2; have he := he_
  clear C0 C1 C2 he_
  obtain ⟨r0, f0⟩ := B0.rules
  obtain ⟨r2, f2⟩ := B2.rules
  go_upto_region 4 with fail
  have he_ := ext_setCells (W := w) (g := (w.heap.size + 1 + 1)) (by omega) [.int .i64 d.leaf] 8 y0 he
  have C2 := B2.put 8 [.int .i64 d.leaf] #[.int .i64 d.client.width, .string d.client.name, .int .i64 d.client.head.number, .int .i64 d.client.head.size, .string d.client.head.root, .int .i64 d.client.head.taken, .string d.client.head.takenRoot, .slice G0 d.client.cursors.length D0, .int .i64 d.leaf, .slice none 0 0] (by simp) rfl
  have C1 := B1.farCells (g' := (w.heap.size + 1 + 1)) (by omega) [.int .i64 d.leaf] 8
  have C0 := B0.farCells (g' := (w.heap.size + 1 + 1)) (by omega) [.int .i64 d.leaf] 8
  replace T0 := T0.keep (Keep.setCells (g := (w.heap.size + 1 + 1)) (by unfold FromB; omega) [.int .i64 d.leaf] 8 y0)
  clear r0 f0 r2 f2 B0 B1 B2 he
  change Code.wp _ _ _ _ (y0.setCells (w.heap.size + 1 + 1) 8 [.int .i64 d.leaf])
  generalize y0.setCells (w.heap.size + 1 + 1) 8 [.int .i64 d.leaf] = y1 at *
  have B0 := C0; have B1 := C1; have B2 := C2; have he := he_
  clear C0 C1 C2 he_
  obtain ⟨r0, f0⟩ := B0.rules
  obtain ⟨r2, f2⟩ := B2.rules
  go_wp2_with fail
  refine (toCursorS_any A1 c1 d.topics _ (S1.out.ext he).reads l_topics).mono ?_
  rintro e x2 ⟨g1, rfl, hg, bg, hx⟩
  have hsz : w.heap.size + 1 + 1 + 1 ≤ y1.heap.size := B2.lt
  replace B0 := B0.ext hx; replace B1 := B1.ext hx; replace B2 := B2.ext hx; replace he := he.next hx
  replace T0 := (T0.ext hx)
  have T1 : SlF (FromB (w.heap.size + 1 + 1 + 1)) CursorD.cells 3 x2 (some ⟨g1, 0, none⟩) d.topics d.topics.length := SlF.new CursorD.cells_length bg l_topics (show _ ≤ _ by omega)
  clear hx hsz
  clear r0 f0 r2 f2
  obtain ⟨r0, f0⟩ := B0.rules
  obtain ⟨r2, f2⟩ := B2.rules
  go_upto_region 5 with fail
  have he_ := ext_setCells (W := w) (g := (w.heap.size + 1 + 1)) (by omega) [.slice (some ⟨g1, 0, none⟩) d.topics.length d.topics.length] 9 x2 he
  have C2 := B2.put 9 [.slice (some ⟨g1, 0, none⟩) d.topics.length d.topics.length] #[.int .i64 d.client.width, .string d.client.name, .int .i64 d.client.head.number, .int .i64 d.client.head.size, .string d.client.head.root, .int .i64 d.client.head.taken, .string d.client.head.takenRoot, .slice G0 d.client.cursors.length D0, .int .i64 d.leaf, .slice (some ⟨g1, 0, none⟩) d.topics.length d.topics.length] (by simp) rfl
  have C1 := B1.farCells (g' := (w.heap.size + 1 + 1)) (by omega) [.slice (some ⟨g1, 0, none⟩) d.topics.length d.topics.length] 9
  have C0 := B0.farCells (g' := (w.heap.size + 1 + 1)) (by omega) [.slice (some ⟨g1, 0, none⟩) d.topics.length d.topics.length] 9
  replace T0 := T0.keep (Keep.setCells (g := (w.heap.size + 1 + 1)) (by unfold FromB; omega) [.slice (some ⟨g1, 0, none⟩) d.topics.length d.topics.length] 9 x2)
  replace T1 := T1.keep (Keep.setCells (g := (w.heap.size + 1 + 1)) (by unfold FromB; omega) [.slice (some ⟨g1, 0, none⟩) d.topics.length d.topics.length] 9 x2)
  clear r0 f0 r2 f2 B0 B1 B2 he
  change Code.wp _ _ _ _ (x2.setCells (w.heap.size + 1 + 1) 9 [.slice (some ⟨g1, 0, none⟩) d.topics.length d.topics.length])
  generalize x2.setCells (w.heap.size + 1 + 1) 9 [.slice (some ⟨g1, 0, none⟩) d.topics.length d.topics.length] = y2 at *
  have B0 := C0; have B1 := C1; have B2 := C2; have he := he_
  clear C0 C1 C2 he_
  obtain ⟨r0, f0⟩ := B0.rules
  obtain ⟨r2, f2⟩ := B2.rules
  have ld := Lib.hid (B2.range)
  have st := Lib.hid (B1.there 0 10 (by decide))
  have O1 : Hid ((#[.int .i64 d.client.width, .string d.client.name, .int .i64 d.client.head.number, .int .i64 d.client.head.size, .string d.client.head.root, .int .i64 d.client.head.taken, .string d.client.head.takenRoot, .slice G0 d.client.cursors.length D0, .int .i64 d.leaf, .slice (some ⟨g1, 0, none⟩) d.topics.length d.topics.length] : Array Value).all (·.oneCell') = true) := Lib.hid (all_oneCell_toArray (by simp [Value.oneCell']))
  clear r0 f0 r2 f2
  have he_ := ext_setCells (W := w) (g := w.heap.size + 1) (by omega) [.int .i64 d.client.width, .string d.client.name, .int .i64 d.client.head.number, .int .i64 d.client.head.size, .string d.client.head.root, .int .i64 d.client.head.taken, .string d.client.head.takenRoot, .slice G0 d.client.cursors.length D0, .int .i64 d.leaf, .slice (some ⟨g1, 0, none⟩) d.topics.length d.topics.length] 0 y2 he
  have E1 := B1.put 0 [.int .i64 d.client.width, .string d.client.name, .int .i64 d.client.head.number, .int .i64 d.client.head.size, .string d.client.head.root, .int .i64 d.client.head.taken, .string d.client.head.takenRoot, .slice G0 d.client.cursors.length D0, .int .i64 d.leaf, .slice (some ⟨g1, 0, none⟩) d.topics.length d.topics.length] #[.int .i64 d.client.width, .string d.client.name, .int .i64 d.client.head.number, .int .i64 d.client.head.size, .string d.client.head.root, .int .i64 d.client.head.taken, .string d.client.head.takenRoot, .slice G0 d.client.cursors.length D0, .int .i64 d.leaf, .slice (some ⟨g1, 0, none⟩) d.topics.length d.topics.length] (by simp) rfl
  replace T0 := T0.keep (Keep.setCells (g := w.heap.size + 1) (by unfold FromB; omega) [.int .i64 d.client.width, .string d.client.name, .int .i64 d.client.head.number, .int .i64 d.client.head.size, .string d.client.head.root, .int .i64 d.client.head.taken, .string d.client.head.takenRoot, .slice G0 d.client.cursors.length D0, .int .i64 d.leaf, .slice (some ⟨g1, 0, none⟩) d.topics.length d.topics.length] 0 y2)
  replace T1 := T1.keep (Keep.setCells (g := w.heap.size + 1) (by unfold FromB; omega) [.int .i64 d.client.width, .string d.client.name, .int .i64 d.client.head.number, .int .i64 d.client.head.size, .string d.client.head.root, .int .i64 d.client.head.taken, .string d.client.head.takenRoot, .slice G0 d.client.cursors.length D0, .int .i64 d.leaf, .slice (some ⟨g1, 0, none⟩) d.topics.length d.topics.length] 0 y2)
  clear B0 B1 B2 he
  go_wp2_with (first | (refine wpList_load_mid rfl 99 _ rfl (w.heap.size + 1 + 1) 0 rfl [.int .i64 d.client.width, .string d.client.name, .int .i64 d.client.head.number, .int .i64 d.client.head.size, .string d.client.head.root, .int .i64 d.client.head.taken, .string d.client.head.takenRoot, .slice G0 d.client.cursors.length D0, .int .i64 d.leaf, .slice (some ⟨g1, 0, none⟩) d.topics.length d.topics.length] _ ld.out Try.underlying99 rfl (by kernel_rfl) ?_) | (refine wpList_store_mid rfl 99 _ _ rfl (w.heap.size + 1) 0 #[.int .i64 d.client.width, .string d.client.name, .int .i64 d.client.head.number, .int .i64 d.client.head.size, .string d.client.head.root, .int .i64 d.client.head.taken, .string d.client.head.takenRoot, .slice G0 d.client.cursors.length D0, .int .i64 d.leaf, .slice (some ⟨g1, 0, none⟩) d.topics.length d.topics.length] rfl rfl st.out (by kernel_rfl) O1.out ?_; change wpList _ _ _ _ _ (y2.setCells (w.heap.size + 1) 0 [.int .i64 d.client.width, .string d.client.name, .int .i64 d.client.head.number, .int .i64 d.client.head.size, .string d.client.head.root, .int .i64 d.client.head.taken, .string d.client.head.takenRoot, .slice G0 d.client.cursors.length D0, .int .i64 d.leaf, .slice (some ⟨g1, 0, none⟩) d.topics.length d.topics.length]); clear ld st O1; generalize y2.setCells (w.heap.size + 1) 0 [.int .i64 d.client.width, .string d.client.name, .int .i64 d.client.head.number, .int .i64 d.client.head.size, .string d.client.head.root, .int .i64 d.client.head.taken, .string d.client.head.takenRoot, .slice G0 d.client.cursors.length D0, .int .i64 d.leaf, .slice (some ⟨g1, 0, none⟩) d.topics.length d.topics.length] = z at *))
  exact ret_row rfl rfl E1 Try.underlying99 rfl (by kernel_rfl) rfl ⟨[.int .i64 d.client.width, .string d.client.name, .int .i64 d.client.head.number, .int .i64 d.client.head.size, .string d.client.head.root, .int .i64 d.client.head.taken, .string d.client.head.takenRoot, .slice G0 d.client.cursors.length D0, .int .i64 d.leaf, .slice (some ⟨g1, 0, none⟩) d.topics.length d.topics.length], rfl, ⟨_, _, _, _, rfl, T0.mono (fun b hb => by unfold FromB at *; omega), T1.mono (fun b hb => by unfold FromB at *; omega)⟩, he_⟩
set_option maxHeartbeats 2000000 in
set_option maxRecDepth 100000 in
theorem eqScanner_same (d : ScannerD) (A0 : Option Addr) (c0 : Nat) (A1 : Option Addr) (c1 : Nat) (B0 : Option Addr) (e0 : Nat) (B1 : Option Addr) (e1 : Nat) (w : World) (s0 : SlF AnyB CursorD.cells 3 w A0 d.client.cursors c0) (s1 : SlF AnyB CursorD.cells 3 w A1 d.topics c1) (t0 : SlF AnyB CursorD.cells 3 w B0 d.client.cursors e0) (t1 : SlF AnyB CursorD.cells 3 w B1 d.topics e1) (hf : ∀ n ∈ d.lens, n ≤ 1048576) :
    Calls Try.prog 57 #[.agg #[.int .i64 d.client.width, .string d.client.name, .int .i64 d.client.head.number, .int .i64 d.client.head.size, .string d.client.head.root, .int .i64 d.client.head.taken, .string d.client.head.takenRoot, .slice A0 d.client.cursors.length c0, .int .i64 d.leaf, .slice A1 d.topics.length c1], .agg #[.int .i64 d.client.width, .string d.client.name, .int .i64 d.client.head.number, .int .i64 d.client.head.size, .string d.client.head.root, .int .i64 d.client.head.taken, .string d.client.head.takenRoot, .slice B0 d.client.cursors.length e0, .int .i64 d.leaf, .slice B1 d.topics.length e1]] w fun e w' => e = .returned (.bool true) ∧ Ext w w' := by
  have l_client : ∀ n ∈ d.client.lens, n ≤ 1048576 := fun n hn => hf n (by simp only [ScannerD.lens, List.mem_append]; simp [hn])
  have l_topics : d.topics.length ≤ 1048576 := hf _ (by simp [ScannerD.lens])
  have S0 := Lib.hid s0; have T0 := Lib.hid t0; clear s0 t0
  have S1 := Lib.hid s1; have T1 := Lib.hid t1; clear s1 t1
  clear hf
  obtain ⟨K0, K1, he⟩ := two_new w #[.int .i64 d.client.width, .string d.client.name, .int .i64 d.client.head.number, .int .i64 d.client.head.size, .string d.client.head.root, .int .i64 d.client.head.taken, .string d.client.head.takenRoot, .slice A0 d.client.cursors.length c0, .int .i64 d.leaf, .slice A1 d.topics.length c1] #[.int .i64 d.client.width, .string d.client.name, .int .i64 d.client.head.number, .int .i64 d.client.head.size, .string d.client.head.root, .int .i64 d.client.head.taken, .string d.client.head.takenRoot, .slice B0 d.client.cursors.length e0, .int .i64 d.leaf, .slice B1 d.topics.length e1] 99 99
  go_enter Try.func57, Try.ntmps57
  obtain ⟨r0, f0⟩ := K0.rules
  obtain ⟨r1, f1⟩ := K1.rules
  go_wp2_with fail
  obtain ⟨g, hg⟩ : ∃ g, g = w.heap.size := ⟨_, rfl⟩
  rw [← hg] at K0 K1
  rw [← hg]
  clear hg r0 f0 r1 f1
  refine (eqClient_same d.client A0 c0 B0 e0 _ (S0.out.ext he) (T0.out.ext he) l_client).mono ?_
  rintro e x0 ⟨rfl, hx⟩
  replace K0 := K0.ext hx; replace K1 := K1.ext hx; replace he := he.next hx; clear hx
  obtain ⟨r0, f0⟩ := K0.rules
  obtain ⟨r1, f1⟩ := K1.rules
  go_wp2_with fail
  clear r0 f0 r1 f1
  refine (eqCursorS_same A1 B1 c1 e1 d.topics _ (S1.out.ext he).reads (T1.out.ext he).reads l_topics).mono ?_
  rintro e x2 ⟨rfl, hx⟩
  replace K0 := K0.ext hx; replace K1 := K1.ext hx; replace he := he.next hx; clear hx
  obtain ⟨r0, f0⟩ := K0.rules
  obtain ⟨r1, f1⟩ := K1.rules
  go_wp2_with fail
  clear r0 f0 r1 f1
  go_ret
  exact ⟨rfl, he⟩
set_option maxHeartbeats 2000000 in
set_option maxRecDepth 100000 in
theorem szScannerS_any (A : Option Addr) (c : Nat) (l : List ScannerD) (left : Int) (w : World) (hr : SlN AnyB ScannerD.In 10 w A l c) (hok : ∀ d ∈ l, d.Ok) (h0 : 0 ≤ left) (h1 : left ≤ 1048576) :
    Calls Try.prog 136 #[.slice A l.length c, .int .i64 left] w fun e w' => e = .returned (.int .i64 (szL (l.length :: l.flatMap ScannerD.lens) left)) ∧ Ext w w' := by
  have hl := hr.len
  unfold maxLen at hl
  have Hok := Lib.hid hok; clear hok
  have Hr := Lib.hid hr; clear hr
  by_cases c0 : left - (l.length : Int) < 0
  · go_enter Try.func136, Try.ntmps136
    go_wp2_with fail
    go_ret
    exact ⟨ret_int (by simp only [szL]; rw [if_pos c0]), by go_grown⟩
  · obtain ⟨fin, hfin⟩ : ∃ fin, fin = szL (l.length :: l.flatMap ScannerD.lens) left := ⟨_, rfl⟩
    have Hi : SzInv ScannerD.lens l fin 0 (left - l.length) := by
      refine ⟨by omega, by omega, ?_⟩
      rw [hfin]; simp only [szL, List.drop_zero]; rw [if_neg c0]
    rw [← hfin]; clear hfin
    go_enter Try.func136, Try.ntmps136
    go_wp2_with fail
    go_loopw [1, 5] (fun r i wr => ∃ (k : Nat) (q : Int), k ≤ l.length ∧ i = .int .i64 k ∧ r = .int .i64 q ∧ 0 ≤ q ∧ q ≤ 1048576 ∧ SzInv ScannerD.lens l fin k q ∧ Ext w wr) (fun _ i _ => l.length - (intOf i).toNat)
    case atStart => exact ⟨0, _, Nat.zero_le _, rfl, rfl, by omega, by omega, Hi, Below.refl _ _⟩
    case round =>
      obtain ⟨k, q, hk, rfl, rfl, q0, q1, hi, he⟩ := hrel
      by_cases hlt : k < l.length
      · obtain ⟨p1, p2⟩ := hi.step hlt
        obtain ⟨b, off, cs, rfl, hb, hcl, hR, hc⟩ := (SlN.ext ScannerD.steady Hr.out he).at_ (k := k) hlt
        obtain ⟨d, hd⟩ : ∃ d, d = l[k] := ⟨_, rfl⟩
        have hdo : d.Ok := Hok.out d (by rw [hd]; exact List.getElem_mem hlt)
        rw [← hd] at p1 p2 hR
        obtain ⟨A0, c0, A1, c1, rfl, s0, s1⟩ := hR
        have Y0 := Lib.hid (cells_range (n := 10) rfl hc)
        clear hc hd hcl
        have Q1 := Lib.hid p1; have Q2 := Lib.hid p2; clear p1 p2
        have S0 := Lib.hid s0; clear s0
        have S1 := Lib.hid s1; clear s1
        go_wp2_with (refine wpList_load_mid rfl 95 _ rfl b (off + k * 10) rfl [.int .i64 d.client.width, .string d.client.name, .int .i64 d.client.head.number, .int .i64 d.client.head.size, .string d.client.head.root, .int .i64 d.client.head.taken, .string d.client.head.takenRoot, .slice A0 d.client.cursors.length c0, .int .i64 d.leaf, .slice A1 d.topics.length c1] _ Y0.out Try.underlying95 rfl (by kernel_rfl) ?_)
        refine (szScanner_any d A0 c0 A1 c1 q _ hdo S0.out S1.out q0 q1).mono ?_
        rintro e w1 ⟨rfl, h1⟩
        replace he := he.next h1; clear h1
        have hp := szL_pos d.lens q q0
        have hq := szL_le d.lens q
        by_cases hn : szL d.lens q < 0
        · have E1 := Lib.hid (Q1.out hn)
          have e2 : szL d.lens q = -1 := by rcases hp with h | h <;> omega
          clear hp hq Q1 Q2 Hi hi
          go_wp2_with fail
          go_ret
          exact ⟨ret_int E1.out.symm, he⟩
        · have H2 := Lib.hid (Q2.out (by omega))
          have n0 : 0 ≤ szL d.lens q := by omega
          have n1 : szL d.lens q ≤ 1048576 := by rcases hq with h | h <;> omega
          clear hp hq Q1 Q2 Hi hi
          go_wp2_with fail
          go_roundw
          case rel => exact ⟨k + 1, _, by omega, by go_num, rfl, n0, n1, H2.out, he⟩
          case measure => simp [intOf]; omega
      · have E1 := Lib.hid (hi.done (by omega))
        clear Hi hi
        go_wp2_with fail
        go_ret
        exact ⟨ret_int E1.out, he⟩
set_option maxHeartbeats 2000000 in
set_option maxRecDepth 100000 in
theorem toScannerS_any (A : Option Addr) (c : Nat) (l : List ScannerD) (w : World) (hr : SlN AnyB ScannerD.In 10 w A l c) (hl : l.length ≤ 1048576) (hf : ∀ x ∈ l, ∀ n ∈ x.lens, n ≤ 1048576) :
    Calls Try.prog 141 #[.slice A l.length c] w fun e w' => ∃ g, e = .returned (.slice (some ⟨g, 0, none⟩) l.length l.length) ∧ w.heap.size ≤ g ∧ SlN (FromB w.heap.size) ScannerD.In 10 w' (some ⟨g, 0, none⟩) l l.length ∧ Ext w w' := by
  obtain ⟨Z, hZ, hmk⟩ := make_any (P := Try.prog) (t := 121) (e := 99) (size := 10) (bytes := 136) l.length Try.underlying121 (by kernel_rfl) (by omega) hl
  have HZ := Lib.hid hZ; clear hZ
  have Hr := Lib.hid hr; clear hr
  have Hf := Lib.hid hf; clear hf
  have Hs := Lib.hid (FilledN.start ScannerD.In 10 99 l w Z)
  have He := Lib.hid (Ext.new (Below.refl w.heap.size w) (.cells Z 99))
  go_enter Try.func141, Try.ntmps141
  go_wp2_with fail
  obtain ⟨g, hg⟩ : ∃ g, g = w.heap.size := ⟨_, rfl⟩
  rw [← hg]
  rw [← hg] at Hs
  have hg0 : w.heap.size ≤ g := by omega
  clear hg
  go_loopw [4] (fun i wr => ∃ (k : Nat), k ≤ l.length ∧ i = .int .i64 k ∧ FilledN ScannerD.In 10 99 l g Z k wr ∧ Ext w wr) (fun i _ => l.length - (intOf i).toNat)
  case atStart => exact ⟨0, Nat.zero_le _, rfl, Hs.out, He.out⟩
  case round =>
    obtain ⟨k, hk, rfl, hi, he⟩ := hrel
    clear Hs He
    by_cases hlt : k < l.length
    · obtain ⟨b, off, cs, rfl, hb, hcl, hR, hc⟩ := (SlN.ext ScannerD.steady Hr.out he).at_ (k := k) hlt
      obtain ⟨d, hd⟩ : ∃ d, d = l[k] := ⟨_, rfl⟩
      have hfd := Hf.out _ (List.getElem_mem hlt)
      rw [← hd] at hR hfd
      obtain ⟨A0, c0, A1, c1, rfl, s0, s1⟩ := hR
      have Y0 := Lib.hid (cells_range (n := 10) rfl hc)
      have Hd := Lib.hid hd
      clear hc hd hcl
      have hgl := hi.lt
      have KI := Lib.hid hi; clear hi
      have S0 := Lib.hid s0; clear s0
      have S1 := Lib.hid s1; clear s1
      have Hfd := Lib.hid hfd; clear hfd
      go_wp2_with (refine wpList_load_mid rfl 95 _ rfl b (off + k * 10) rfl [.int .i64 d.client.width, .string d.client.name, .int .i64 d.client.head.number, .int .i64 d.client.head.size, .string d.client.head.root, .int .i64 d.client.head.taken, .string d.client.head.takenRoot, .slice A0 d.client.cursors.length c0, .int .i64 d.leaf, .slice A1 d.topics.length c1] _ Y0.out Try.underlying95 rfl (by kernel_rfl) ?_)
      refine (toScanner_any d A0 c0 A1 c1 _ S0.out S1.out Hfd.out).mono ?_
      rintro e w1 ⟨cs, rfl, hin, h1⟩
      have hi := FilledN.ext ScannerD.steady KI.out h1
      replace he := he.next h1
      clear h1 KI Y0
      have hin2 : ScannerD.In (FromB (g + 1)) w1 cs l[k] := by rw [← Hd.out]; exact ScannerD.steady.mono hin (fun b hb => by unfold FromB at *; omega)
      have Hn := Lib.hid (hi.step ScannerD.steady HZ.out hlt (ScannerD.in_len hin2) hin2)
      have ht := hi.there HZ.out hlt
      obtain ⟨A0, c0, A1, c1, rfl, _⟩ := hin
      clear hin2
      have hz := hi.frozen
      have Z0 := Lib.hid ht
      clear hz
      have O1 : Hid ((#[.int .i64 d.client.width, .string d.client.name, .int .i64 d.client.head.number, .int .i64 d.client.head.size, .string d.client.head.root, .int .i64 d.client.head.taken, .string d.client.head.takenRoot, .slice A0 d.client.cursors.length c0, .int .i64 d.leaf, .slice A1 d.topics.length c1] : Array Value).all (·.oneCell') = true) := Lib.hid (all_oneCell_toArray (by simp [Value.oneCell']))
      clear ht hi
      have He2 := Lib.hid (ext_setCells (g := g) (W := w) hg0 [.int .i64 d.client.width, .string d.client.name, .int .i64 d.client.head.number, .int .i64 d.client.head.size, .string d.client.head.root, .int .i64 d.client.head.taken, .string d.client.head.takenRoot, .slice A0 d.client.cursors.length c0, .int .i64 d.leaf, .slice A1 d.topics.length c1] (k * 10) w1 he)
      go_wp2_with (refine wpList_store_mid rfl 99 _ _ rfl g (k * 10) #[.int .i64 d.client.width, .string d.client.name, .int .i64 d.client.head.number, .int .i64 d.client.head.size, .string d.client.head.root, .int .i64 d.client.head.taken, .string d.client.head.takenRoot, .slice A0 d.client.cursors.length c0, .int .i64 d.leaf, .slice A1 d.topics.length c1] rfl rfl Z0.out (by kernel_rfl) O1.out ?_; change wpList _ _ _ _ _ (w1.setCells g (k * 10) [.int .i64 d.client.width, .string d.client.name, .int .i64 d.client.head.number, .int .i64 d.client.head.size, .string d.client.head.root, .int .i64 d.client.head.taken, .string d.client.head.takenRoot, .slice A0 d.client.cursors.length c0, .int .i64 d.leaf, .slice A1 d.topics.length c1]); generalize w1.setCells g (k * 10) [.int .i64 d.client.width, .string d.client.name, .int .i64 d.client.head.number, .int .i64 d.client.head.size, .string d.client.head.root, .int .i64 d.client.head.taken, .string d.client.head.takenRoot, .slice A0 d.client.cursors.length c0, .int .i64 d.leaf, .slice A1 d.topics.length c1] = w2 at Hn He2 ⊢)
      go_roundw
      case rel => exact ⟨k + 1, by omega, by go_num, Hn.out, He2.out⟩
      case measure => simp [intOf]; omega
    · have Hf2 := Lib.hid (hi.done ScannerD.steady HZ.out (by omega) hl (p := FromB w.heap.size) (fun b hb => by unfold FromB; omega))
      clear hi
      go_wp2_with fail
      go_ret
      exact ⟨g, rfl, hg0, Hf2.out, he⟩
set_option maxHeartbeats 2000000 in
set_option maxRecDepth 100000 in
theorem eqScannerS_same (A A' : Option Addr) (c c' : Nat) (l : List ScannerD) (w : World) (hr : SlN AnyB ScannerD.In 10 w A l c) (hr' : SlN AnyB ScannerD.In 10 w A' l c') (hl : l.length ≤ 1048576) (hf : ∀ x ∈ l, ∀ n ∈ x.lens, n ≤ 1048576) :
    Calls Try.prog 146 #[.slice A l.length c, .slice A' l.length c'] w fun e w' => e = .returned (.bool true) ∧ Ext w w' := by
  have Hr := Lib.hid hr; clear hr
  have Hr2 := Lib.hid hr'; clear hr'
  have Hf := Lib.hid hf; clear hf
  go_enter Try.func146, Try.ntmps146
  go_wp2_with fail
  go_loopw [5] (fun i wr => ∃ (k : Nat), k ≤ l.length ∧ i = .int .i64 k ∧ Ext w wr) (fun i _ => l.length - (intOf i).toNat)
  case atStart => exact ⟨0, Nat.zero_le _, rfl, Below.refl _ _⟩
  case round =>
    obtain ⟨k, hk, rfl, he⟩ := hrel
    by_cases hlt : k < l.length
    · obtain ⟨b, off, cs, rfl, hb, hcl, hR, hc⟩ := (SlN.ext ScannerD.steady Hr.out he).at_ (k := k) hlt
      obtain ⟨b', off', cs', rfl, hb', hcl', hR', hc'⟩ := (SlN.ext ScannerD.steady Hr2.out he).at_ (k := k) hlt
      obtain ⟨d, hd⟩ : ∃ d, d = l[k] := ⟨_, rfl⟩
      have Hfd := Lib.hid (Hf.out _ (List.getElem_mem hlt))
      rw [← hd] at hR hR' Hfd
      obtain ⟨A0, c0, A1, c1, rfl, s0, s1⟩ := hR
      obtain ⟨B0, e0, B1, e1, rfl, t0, t1⟩ := hR'
      have Y0 := cells_range (n := 10) rfl hc
      have U0 := cells_range (n := 10) rfl hc'
      clear hc hc' hd hcl hcl'
      have S0 := Lib.hid s0; have T0 := Lib.hid t0; clear s0 t0
      have S1 := Lib.hid s1; have T1 := Lib.hid t1; clear s1 t1
      have he0 : Ext wr wr.drew := ⟨rfl, rfl, rfl, Nat.le_refl _, fun _ _ => rfl⟩
      have Y1 := Lib.hid (range_ext Y0 he0 hb); have U1 := Lib.hid (range_ext U0 he0 hb')
      clear Y0 U0
      go_wp2_with fail
      refine wp_region_still_tail 8 (by kernel_rfl) (by kernel_rfl) ?_
      simp only [List.take_succ_cons, List.take_zero, List.drop_succ_cons, List.drop_zero]
      still_step; still_step; still_step
      refine wpStill_load_mid (by rfl) 99 _ rfl b (off + k * 10) rfl [.int .i64 d.client.width, .string d.client.name, .int .i64 d.client.head.number, .int .i64 d.client.head.size, .string d.client.head.root, .int .i64 d.client.head.taken, .string d.client.head.takenRoot, .slice A0 d.client.cursors.length c0, .int .i64 d.leaf, .slice A1 d.topics.length c1] _ Y1.out Try.underlying99 rfl (by kernel_rfl) ?_
      simp only [Act.put, List.setIfInBounds_toArray, List.set_cons_zero, List.set_cons_succ]
      still_step; still_step; still_step
      refine wpStill_load_mid (by rfl) 99 _ rfl b' (off' + k * 10) rfl [.int .i64 d.client.width, .string d.client.name, .int .i64 d.client.head.number, .int .i64 d.client.head.size, .string d.client.head.root, .int .i64 d.client.head.taken, .string d.client.head.takenRoot, .slice B0 d.client.cursors.length e0, .int .i64 d.leaf, .slice B1 d.topics.length e1] _ U1.out Try.underlying99 rfl (by kernel_rfl) ?_
      simp only [Act.put, List.setIfInBounds_toArray, List.set_cons_zero, List.set_cons_succ]
      refine wpStill_nil ?_
      change wpList _ _ _ _ _ wr.drew
      generalize hw : wr.drew = w2 at *
      have he2 : Ext w w2 := he.next he0
      clear hw he
      go_wp2_with fail
      refine (eqScanner_same d A0 c0 A1 c1 B0 e0 B1 e1 _ (S0.out.ext he0) (S1.out.ext he0) (T0.out.ext he0) (T1.out.ext he0) Hfd.out).mono ?_
      rintro e w1 ⟨rfl, h1⟩
      replace he2 := he2.next h1; clear h1 he0 Y1 U1
      go_wp2_with fail
      go_roundw
      case rel => exact ⟨k + 1, by omega, by go_num, he2⟩
      case measure => simp [intOf]; omega
    · go_wp2_with fail
      go_ret
      exact ⟨rfl, he⟩
end Go.Proofs.Ytcpfgldcijkhlaa
