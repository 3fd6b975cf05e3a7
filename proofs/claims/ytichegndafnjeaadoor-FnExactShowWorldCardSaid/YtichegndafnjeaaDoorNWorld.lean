/-
  What World is in memory; the laws' own functions at it: walks. Written by program (gen_nest.py). No condition.
-/
import Derived.Test.YtichegndafnjeaaDoorNest
import Derived.Test.YtichegndafnjeaaDoorNBroker
import Derived.Test.YtichegndafnjeaaDoorNDisk
import Derived.Test.YtichegndafnjeaaDoorNClient
import Derived.Test.YtichegndafnjeaaDoorConvGiven
import Derived.Test.YtichegndafnjeaaDoorNItem
import Derived.Test.YtichegndafnjeaaDoorNString
import Derived.StillTailTactics
namespace Go.Proofs.YtichegndafnjeaaDoor
set_option linter.unusedSimpArgs false
open Go.RowKit
set_option linter.unusedVariables false

structure WorldD where
  broker : BrokerD
  disk : DiskD
  clients : List ClientD
  given : List GivenD
  items : List ItemD
def WorldD.In : Rep WorldD := fun p w cs d => ∃ (A0 : Option Addr) (c0 : Nat) (A1 : Option Addr) (c1 : Nat) (A2 : Option Addr) (c2 : Nat) (A3 : Option Addr) (c3 : Nat) (A4 : Option Addr) (c4 : Nat) (A5 : Option Addr) (c5 : Nat) (A6 : Option Addr) (c6 : Nat) (A7 : Option Addr) (c7 : Nat) (A8 : Option Addr) (c8 : Nat), cs = [.int .i64 d.broker.width, .slice A0 d.broker.log.entries.length c0, .slice A1 d.broker.receipts.length c1, .slice A2 d.broker.heads.length c2, .int .i64 d.broker.sealed.leaves.size, .slice A3 d.broker.sealed.leaves.peaks.length c3, .int .i64 d.broker.sealed.taken.size, .slice A4 d.broker.sealed.taken.peaks.length c4, .int .i64 d.broker.sealed.head.number, .int .i64 d.broker.sealed.head.size, .string d.broker.sealed.head.root, .int .i64 d.broker.sealed.head.taken, .string d.broker.sealed.head.takenRoot, .slice A5 d.disk.files.length c5, .slice A6 d.clients.length c6, .slice A7 d.given.length c7, .slice A8 d.items.length c8] ∧ SlF p EntryD.cells 5 w A0 d.broker.log.entries c0 ∧ SlF p ReceiptD.cells 3 w A1 d.broker.receipts c1 ∧ SlF p HeadD.cells 5 w A2 d.broker.heads c2 ∧ SlF p sone 1 w A3 d.broker.sealed.leaves.peaks c3 ∧ SlF p sone 1 w A4 d.broker.sealed.taken.peaks c4 ∧ SlF p sone 1 w A5 d.disk.files c5 ∧ SlN p ClientD.In 8 w A6 d.clients c6 ∧ SlF p GivenD.cells 7 w A7 d.given c7 ∧ SlN p ItemD.In 22 w A8 d.items c8
theorem WorldD.steady : Steady WorldD.In := ⟨fun h k => by obtain ⟨A0, c0, A1, c1, A2, c2, A3, c3, A4, c4, A5, c5, A6, c6, A7, c7, A8, c8, rfl, s0, s1, s2, s3, s4, s5, s6, s7, s8⟩ := h; exact ⟨_, _, _, _, _, _, _, _, _, _, _, _, _, _, _, _, _, _, rfl, s0.keep k, s1.keep k, s2.keep k, s3.keep k, s4.keep k, s5.keep k, SlN.keep ClientD.steady s6 k, s7.keep k, SlN.keep ItemD.steady s8 k⟩, fun h k => by obtain ⟨A0, c0, A1, c1, A2, c2, A3, c3, A4, c4, A5, c5, A6, c6, A7, c7, A8, c8, rfl, s0, s1, s2, s3, s4, s5, s6, s7, s8⟩ := h; exact ⟨_, _, _, _, _, _, _, _, _, _, _, _, _, _, _, _, _, _, rfl, s0.mono k, s1.mono k, s2.mono k, s3.mono k, s4.mono k, s5.mono k, SlN.mono ClientD.steady s6 k, s7.mono k, SlN.mono ItemD.steady s8 k⟩⟩
theorem WorldD.in_len {p : Nat → Prop} {w : World} {cs : List Value} {d : WorldD} (h : WorldD.In p w cs d) : cs.length = 17 := by obtain ⟨A0, c0, A1, c1, A2, c2, A3, c3, A4, c4, A5, c5, A6, c6, A7, c7, A8, c8, rfl, _⟩ := h; rfl
def WorldD.Ok (d : WorldD) : Prop := d.broker.Ok ∧ d.disk.Ok ∧ (∀ x ∈ d.clients, x.Ok) ∧ (∀ x ∈ d.given, x.Ok) ∧ (∀ x ∈ d.items, x.Ok)
def WorldD.lens (d : WorldD) : List Nat := d.broker.lens ++ (d.disk.lens ++ ((d.clients.length :: d.clients.flatMap ClientD.lens) ++ ((d.given.length :: d.given.flatMap GivenD.lens) ++ ((d.items.length :: d.items.flatMap ItemD.lens) ++ []))))
set_option maxRecDepth 100000 in
theorem WorldD.typed {w : World} {n : Nat} {cs : List Value} (h : Typed Tryd.prog w n 42 cs) : ∃ d : WorldD, WorldD.In AnyB w cs d ∧ d.Ok := by
  obtain ⟨hl, m, hf⟩ := typed_struct Tryd.underlying42 h
  have hC : Tryd.prog.cellsOf 42 = 17 := by kernel_rfl
  have hs0 : Tryd.prog.cellsOf 35 = 13 := by kernel_rfl
  have hs1 : Tryd.prog.cellsOf 37 = 1 := by kernel_rfl
  have hs2 : Tryd.prog.cellsOf 38 = 1 := by kernel_rfl
  have hs3 : Tryd.prog.cellsOf 39 = 1 := by kernel_rfl
  have hs4 : Tryd.prog.cellsOf 40 = 1 := by kernel_rfl
  rw [hC] at hl
  match cs, hl with
  | [x0, x1, x2, x3, x4, x5, x6, x7, x8, x9, x10, x11, x12, x13, x14, x15, x16], _ =>
    have f0 := hf _ (List.mem_iff_getElem?.2 ⟨0, rfl⟩)
    simp only [hs0, List.drop_zero, List.take_succ_cons, List.take_zero] at f0
    obtain ⟨a0, i0, w0⟩ := BrokerD.typed f0
    obtain ⟨A0, c0, A1, c1, A2, c2, A3, c3, A4, c4, e0, s0, s1, s2, s3, s4⟩ := i0
    simp only [List.cons.injEq, and_true] at e0
    obtain ⟨rfl, rfl, rfl, rfl, rfl, rfl, rfl, rfl, rfl, rfl, rfl, rfl, rfl⟩ := e0
    have f1 := hf _ (List.mem_iff_getElem?.2 ⟨1, rfl⟩)
    simp only [hs1, List.drop_succ_cons, List.drop_zero, List.take_succ_cons, List.take_zero] at f1
    obtain ⟨a1, i1, w1⟩ := DiskD.typed f1
    obtain ⟨A5, c5, e1, s5⟩ := i1
    simp only [List.cons.injEq, and_true] at e1
    obtain rfl := e1
    have f2 := hf _ (List.mem_iff_getElem?.2 ⟨2, rfl⟩)
    simp only [hs2, List.drop_succ_cons, List.drop_zero, List.take_succ_cons, List.take_zero] at f2
    obtain ⟨A6, c6, a2, e2, s6, w2⟩ := typed_sliceN ClientD.In ClientD.Ok 8 Tryd.underlying38 (by kernel_rfl) (by decide) (fun cs a h => ClientD.in_len h) (fun m es h => ClientD.typed h) f2
    obtain rfl : x14 = _ := by simpa using e2
    have f3 := hf _ (List.mem_iff_getElem?.2 ⟨3, rfl⟩)
    simp only [hs3, List.drop_succ_cons, List.drop_zero, List.take_succ_cons, List.take_zero] at f3
    obtain ⟨A7, c7, a3, e3, s7, w3⟩ := typed_sliceF GivenD.cells GivenD.Ok 7 Tryd.underlying39 (by kernel_rfl) (by decide) GivenD.cells_length (fun m es h => GivenD.typed h) f3
    obtain rfl : x15 = _ := by simpa using e3
    have f4 := hf _ (List.mem_iff_getElem?.2 ⟨4, rfl⟩)
    simp only [hs4, List.drop_succ_cons, List.drop_zero, List.take_succ_cons, List.take_zero] at f4
    obtain ⟨A8, c8, a4, e4, s8, w4⟩ := typed_sliceN ItemD.In ItemD.Ok 22 Tryd.underlying40 (by kernel_rfl) (by decide) (fun cs a h => ItemD.in_len h) (fun m es h => ItemD.typed h) f4
    obtain rfl : x16 = _ := by simpa using e4
    exact ⟨⟨a0, a1, a2, a3, a4⟩, ⟨_, _, _, _, _, _, _, _, _, _, _, _, _, _, _, _, _, _, rfl, s0, s1, s2, s3, s4, s5, s6, s7, s8⟩, w0, w1, w2, w3, w4⟩
set_option maxHeartbeats 2000000 in
set_option maxRecDepth 100000 in
theorem szWorld_any (d : WorldD) (A0 : Option Addr) (c0 : Nat) (A1 : Option Addr) (c1 : Nat) (A2 : Option Addr) (c2 : Nat) (A3 : Option Addr) (c3 : Nat) (A4 : Option Addr) (c4 : Nat) (A5 : Option Addr) (c5 : Nat) (A6 : Option Addr) (c6 : Nat) (A7 : Option Addr) (c7 : Nat) (A8 : Option Addr) (c8 : Nat) (left : Int) (w : World) (hok : d.Ok) (s0 : SlF AnyB EntryD.cells 5 w A0 d.broker.log.entries c0) (s1 : SlF AnyB ReceiptD.cells 3 w A1 d.broker.receipts c1) (s2 : SlF AnyB HeadD.cells 5 w A2 d.broker.heads c2) (s3 : SlF AnyB sone 1 w A3 d.broker.sealed.leaves.peaks c3) (s4 : SlF AnyB sone 1 w A4 d.broker.sealed.taken.peaks c4) (s5 : SlF AnyB sone 1 w A5 d.disk.files c5) (s6 : SlN AnyB ClientD.In 8 w A6 d.clients c6) (s7 : SlF AnyB GivenD.cells 7 w A7 d.given c7) (s8 : SlN AnyB ItemD.In 22 w A8 d.items c8) (h0 : 0 ≤ left) (h1 : left ≤ 1048576) :
    Calls Tryd.prog 4 #[.agg #[.int .i64 d.broker.width, .slice A0 d.broker.log.entries.length c0, .slice A1 d.broker.receipts.length c1, .slice A2 d.broker.heads.length c2, .int .i64 d.broker.sealed.leaves.size, .slice A3 d.broker.sealed.leaves.peaks.length c3, .int .i64 d.broker.sealed.taken.size, .slice A4 d.broker.sealed.taken.peaks.length c4, .int .i64 d.broker.sealed.head.number, .int .i64 d.broker.sealed.head.size, .string d.broker.sealed.head.root, .int .i64 d.broker.sealed.head.taken, .string d.broker.sealed.head.takenRoot, .slice A5 d.disk.files.length c5, .slice A6 d.clients.length c6, .slice A7 d.given.length c7, .slice A8 d.items.length c8], .int .i64 left] w fun e w' => e = .returned (.int .i64 (szL d.lens left)) ∧ Ext w w' := by
  obtain ⟨k_broker, k_disk, k_clients, k_given, k_items⟩ := hok
  have S0 := Lib.hid s0; clear s0
  have S1 := Lib.hid s1; clear s1
  have S2 := Lib.hid s2; clear s2
  have S3 := Lib.hid s3; clear s3
  have S4 := Lib.hid s4; clear s4
  have S5 := Lib.hid s5; clear s5
  have S6 := Lib.hid s6; clear s6
  have S7 := Lib.hid s7; clear s7
  have S8 := Lib.hid s8; clear s8
  have K_broker := Lib.hid k_broker; clear k_broker
  have K_disk := Lib.hid k_disk; clear k_disk
  have K_clients := Lib.hid k_clients; clear k_clients
  have K_given := Lib.hid k_given; clear k_given
  have K_items := Lib.hid k_items; clear k_items
  have K0 := Lib.hid (Blk.new w 42 #[.int .i64 d.broker.width, .slice A0 d.broker.log.entries.length c0, .slice A1 d.broker.receipts.length c1, .slice A2 d.broker.heads.length c2, .int .i64 d.broker.sealed.leaves.size, .slice A3 d.broker.sealed.leaves.peaks.length c3, .int .i64 d.broker.sealed.taken.size, .slice A4 d.broker.sealed.taken.peaks.length c4, .int .i64 d.broker.sealed.head.number, .int .i64 d.broker.sealed.head.size, .string d.broker.sealed.head.root, .int .i64 d.broker.sealed.head.taken, .string d.broker.sealed.head.takenRoot, .slice A5 d.disk.files.length c5, .slice A6 d.clients.length c6, .slice A7 d.given.length c7, .slice A8 d.items.length c8])
  have He := Lib.hid (Ext.new (Below.refl w.heap.size w) (.cells #[.int .i64 d.broker.width, .slice A0 d.broker.log.entries.length c0, .slice A1 d.broker.receipts.length c1, .slice A2 d.broker.heads.length c2, .int .i64 d.broker.sealed.leaves.size, .slice A3 d.broker.sealed.leaves.peaks.length c3, .int .i64 d.broker.sealed.taken.size, .slice A4 d.broker.sealed.taken.peaks.length c4, .int .i64 d.broker.sealed.head.number, .int .i64 d.broker.sealed.head.size, .string d.broker.sealed.head.root, .int .i64 d.broker.sealed.head.taken, .string d.broker.sealed.head.takenRoot, .slice A5 d.disk.files.length c5, .slice A6 d.clients.length c6, .slice A7 d.given.length c7, .slice A8 d.items.length c8] 42))
  obtain ⟨fin, hfin⟩ : ∃ fin, fin = szL d.lens left := ⟨_, rfl⟩
  have F : Hid (szL (d.broker.lens ++ (d.disk.lens ++ ((d.clients.length :: d.clients.flatMap ClientD.lens) ++ ((d.given.length :: d.given.flatMap GivenD.lens) ++ ((d.items.length :: d.items.flatMap ItemD.lens) ++ []))))) left = fin) := Lib.hid hfin.symm
  rw [← hfin]
  clear hfin
  go_enter Tryd.func4, Tryd.ntmps4
  go_wp2_with fail
  refine (szBroker_any d.broker A0 c0 A1 c1 A2 c2 A3 c3 A4 c4 left _ K_broker.out (S0.out.ext He.out) (S1.out.ext He.out) (S2.out.ext He.out) (S3.out.ext He.out) (S4.out.ext He.out) h0 h1).mono ?_
  rintro e w1 ⟨rfl, hx⟩
  have K1 := K0.out.ext hx; have he := He.out.next hx; clear hx K0 He
  obtain ⟨r0, m0⟩ := K1.rules
  have hp := szL_pos d.broker.lens left h0
  have hqq := szL_le d.broker.lens left
  by_cases n0 : szL d.broker.lens left < 0
  · have E := Lib.hid (show (-1 : Int) = fin by rw [← F.out, szL_append _ _ _ h0, if_pos n0])
    have ev : szL d.broker.lens left = -1 := by omega
    clear hp hqq F
    go_wp2_with fail
    go_ret
    exact ⟨ret_int E.out, he⟩
  have F2 : Hid (szL (d.disk.lens ++ ((d.clients.length :: d.clients.flatMap ClientD.lens) ++ ((d.given.length :: d.given.flatMap GivenD.lens) ++ ((d.items.length :: d.items.flatMap ItemD.lens) ++ [])))) (szL d.broker.lens left) = fin) := Lib.hid (by rw [← F.out, szL_append _ _ _ h0, if_neg n0])
  clear F
  have u0 : 0 ≤ szL d.broker.lens left := by omega
  have v0 : szL d.broker.lens left ≤ 1048576 := by omega
  clear hp hqq
  generalize szL d.broker.lens left = q0 at *
  have F := F2
  clear F2
  go_wp2_with fail
  refine (szDisk_any d.disk A5 c5 q0 _ K_disk.out (S5.out.ext he) u0 v0).mono ?_
  rintro e w2 ⟨rfl, hx⟩
  replace K1 := K1.ext hx; replace he := he.next hx; clear hx r0 m0
  obtain ⟨r0, m0⟩ := K1.rules
  have hp := szL_pos d.disk.lens q0 u0
  have hqq := szL_le d.disk.lens q0
  by_cases n1 : szL d.disk.lens q0 < 0
  · have E := Lib.hid (show (-1 : Int) = fin by rw [← F.out, szL_append _ _ _ u0, if_pos n1])
    have ev : szL d.disk.lens q0 = -1 := by omega
    clear hp hqq F
    go_wp2_with fail
    go_ret
    exact ⟨ret_int E.out, he⟩
  have F2 : Hid (szL ((d.clients.length :: d.clients.flatMap ClientD.lens) ++ ((d.given.length :: d.given.flatMap GivenD.lens) ++ ((d.items.length :: d.items.flatMap ItemD.lens) ++ []))) (szL d.disk.lens q0) = fin) := Lib.hid (by rw [← F.out, szL_append _ _ _ u0, if_neg n1])
  clear F
  have u1 : 0 ≤ szL d.disk.lens q0 := by omega
  have v1 : szL d.disk.lens q0 ≤ 1048576 := by omega
  clear hp hqq
  generalize szL d.disk.lens q0 = q1 at *
  have F := F2
  clear F2
  go_wp2_with fail
  refine (szClientS_any A6 c6 d.clients q1 _ (SlN.ext ClientD.steady S6.out he) K_clients.out u1 v1).mono ?_
  rintro e w3 ⟨rfl, hx⟩
  replace K1 := K1.ext hx; replace he := he.next hx; clear hx r0 m0
  obtain ⟨r0, m0⟩ := K1.rules
  have hp := szL_pos (d.clients.length :: d.clients.flatMap ClientD.lens) q1 u1
  have hqq := szL_le (d.clients.length :: d.clients.flatMap ClientD.lens) q1
  by_cases n2 : szL (d.clients.length :: d.clients.flatMap ClientD.lens) q1 < 0
  · have E := Lib.hid (show (-1 : Int) = fin by rw [← F.out, szL_append _ _ _ u1, if_pos n2])
    have ev : szL (d.clients.length :: d.clients.flatMap ClientD.lens) q1 = -1 := by omega
    clear hp hqq F
    go_wp2_with fail
    go_ret
    exact ⟨ret_int E.out, he⟩
  have F2 : Hid (szL ((d.given.length :: d.given.flatMap GivenD.lens) ++ ((d.items.length :: d.items.flatMap ItemD.lens) ++ [])) (szL (d.clients.length :: d.clients.flatMap ClientD.lens) q1) = fin) := Lib.hid (by rw [← F.out, szL_append _ _ _ u1, if_neg n2])
  clear F
  have u2 : 0 ≤ szL (d.clients.length :: d.clients.flatMap ClientD.lens) q1 := by omega
  have v2 : szL (d.clients.length :: d.clients.flatMap ClientD.lens) q1 ≤ 1048576 := by omega
  clear hp hqq
  generalize szL (d.clients.length :: d.clients.flatMap ClientD.lens) q1 = q2 at *
  have F := F2
  clear F2
  go_wp2_with fail
  refine (szGivenS_any A7 c7 d.given q2 _ (S7.out.ext he).reads K_given.out S7.out.len u2 v2).mono ?_
  rintro e w4 ⟨rfl, hx⟩
  replace K1 := K1.ext hx; replace he := he.next hx; clear hx r0 m0
  obtain ⟨r0, m0⟩ := K1.rules
  have hp := szL_pos (d.given.length :: d.given.flatMap GivenD.lens) q2 u2
  have hqq := szL_le (d.given.length :: d.given.flatMap GivenD.lens) q2
  by_cases n3 : szL (d.given.length :: d.given.flatMap GivenD.lens) q2 < 0
  · have E := Lib.hid (show (-1 : Int) = fin by rw [← F.out, szL_append _ _ _ u2, if_pos n3])
    have ev : szL (d.given.length :: d.given.flatMap GivenD.lens) q2 = -1 := by omega
    clear hp hqq F
    go_wp2_with fail
    go_ret
    exact ⟨ret_int E.out, he⟩
  have F2 : Hid (szL ((d.items.length :: d.items.flatMap ItemD.lens) ++ []) (szL (d.given.length :: d.given.flatMap GivenD.lens) q2) = fin) := Lib.hid (by rw [← F.out, szL_append _ _ _ u2, if_neg n3])
  clear F
  have u3 : 0 ≤ szL (d.given.length :: d.given.flatMap GivenD.lens) q2 := by omega
  have v3 : szL (d.given.length :: d.given.flatMap GivenD.lens) q2 ≤ 1048576 := by omega
  clear hp hqq
  generalize szL (d.given.length :: d.given.flatMap GivenD.lens) q2 = q3 at *
  have F := F2
  clear F2
  go_wp2_with fail
  refine (szItemS_any A8 c8 d.items q3 _ (SlN.ext ItemD.steady S8.out he) K_items.out u3 v3).mono ?_
  rintro e w5 ⟨rfl, hx⟩
  replace K1 := K1.ext hx; replace he := he.next hx; clear hx r0 m0
  obtain ⟨r0, m0⟩ := K1.rules
  have hp := szL_pos (d.items.length :: d.items.flatMap ItemD.lens) q3 u3
  have hqq := szL_le (d.items.length :: d.items.flatMap ItemD.lens) q3
  by_cases n4 : szL (d.items.length :: d.items.flatMap ItemD.lens) q3 < 0
  · have E := Lib.hid (show (-1 : Int) = fin by rw [← F.out, szL_append _ _ _ u3, if_pos n4])
    have ev : szL (d.items.length :: d.items.flatMap ItemD.lens) q3 = -1 := by omega
    clear hp hqq F
    go_wp2_with fail
    go_ret
    exact ⟨ret_int E.out, he⟩
  have F2 : Hid (szL ([]) (szL (d.items.length :: d.items.flatMap ItemD.lens) q3) = fin) := Lib.hid (by rw [← F.out, szL_append _ _ _ u3, if_neg n4])
  clear F
  have u4 : 0 ≤ szL (d.items.length :: d.items.flatMap ItemD.lens) q3 := by omega
  have v4 : szL (d.items.length :: d.items.flatMap ItemD.lens) q3 ≤ 1048576 := by omega
  clear hp hqq
  generalize szL (d.items.length :: d.items.flatMap ItemD.lens) q3 = q4 at *
  have F := F2
  clear F2
  go_wp2_with fail
  go_ret
  exact ⟨ret_int (show q4 = fin from F.out), he⟩
set_option maxHeartbeats 4000000 in
set_option maxRecDepth 100000 in
theorem toWorld_any (d : WorldD) (A0 : Option Addr) (c0 : Nat) (A1 : Option Addr) (c1 : Nat) (A2 : Option Addr) (c2 : Nat) (A3 : Option Addr) (c3 : Nat) (A4 : Option Addr) (c4 : Nat) (A5 : Option Addr) (c5 : Nat) (A6 : Option Addr) (c6 : Nat) (A7 : Option Addr) (c7 : Nat) (A8 : Option Addr) (c8 : Nat) (w : World) (s0 : SlF AnyB EntryD.cells 5 w A0 d.broker.log.entries c0) (s1 : SlF AnyB ReceiptD.cells 3 w A1 d.broker.receipts c1) (s2 : SlF AnyB HeadD.cells 5 w A2 d.broker.heads c2) (s3 : SlF AnyB sone 1 w A3 d.broker.sealed.leaves.peaks c3) (s4 : SlF AnyB sone 1 w A4 d.broker.sealed.taken.peaks c4) (s5 : SlF AnyB sone 1 w A5 d.disk.files c5) (s6 : SlN AnyB ClientD.In 8 w A6 d.clients c6) (s7 : SlF AnyB GivenD.cells 7 w A7 d.given c7) (s8 : SlN AnyB ItemD.In 22 w A8 d.items c8) (hf : ∀ n ∈ d.lens, n ≤ 1048576) :
    Calls Tryd.prog 6 #[.agg #[.int .i64 d.broker.width, .slice A0 d.broker.log.entries.length c0, .slice A1 d.broker.receipts.length c1, .slice A2 d.broker.heads.length c2, .int .i64 d.broker.sealed.leaves.size, .slice A3 d.broker.sealed.leaves.peaks.length c3, .int .i64 d.broker.sealed.taken.size, .slice A4 d.broker.sealed.taken.peaks.length c4, .int .i64 d.broker.sealed.head.number, .int .i64 d.broker.sealed.head.size, .string d.broker.sealed.head.root, .int .i64 d.broker.sealed.head.taken, .string d.broker.sealed.head.takenRoot, .slice A5 d.disk.files.length c5, .slice A6 d.clients.length c6, .slice A7 d.given.length c7, .slice A8 d.items.length c8]] w fun e w' => ∃ cs, e = .returned (.agg cs.toArray) ∧ WorldD.In (FromB w.heap.size) w' cs d ∧ Ext w w' := by
  have l_broker : ∀ n ∈ d.broker.lens, n ≤ 1048576 := fun n hn => hf n (by simp only [WorldD.lens, List.mem_append]; simp [hn])
  have l_disk : ∀ n ∈ d.disk.lens, n ≤ 1048576 := fun n hn => hf n (by simp only [WorldD.lens, List.mem_append]; simp [hn])
  have l_clients : d.clients.length ≤ 1048576 := hf _ (by simp [WorldD.lens])
  have L_clients : Hid (∀ x ∈ d.clients, ∀ n ∈ x.lens, n ≤ 1048576) := Lib.hid (fun x hx n hn => hf n (by simp only [WorldD.lens, List.mem_append, List.mem_cons, List.mem_flatMap]; simp only [show (∃ a, a ∈ d.clients ∧ n ∈ a.lens) from ⟨x, hx, hn⟩]; simp))
  have l_given : d.given.length ≤ 1048576 := hf _ (by simp [WorldD.lens])
  have l_items : d.items.length ≤ 1048576 := hf _ (by simp [WorldD.lens])
  have L_items : Hid (∀ x ∈ d.items, ∀ n ∈ x.lens, n ≤ 1048576) := Lib.hid (fun x hx n hn => hf n (by simp only [WorldD.lens, List.mem_append, List.mem_cons, List.mem_flatMap]; simp only [show (∃ a, a ∈ d.items ∧ n ∈ a.lens) from ⟨x, hx, hn⟩]; simp))
  have S0 := Lib.hid s0; clear s0
  have S1 := Lib.hid s1; clear s1
  have S2 := Lib.hid s2; clear s2
  have S3 := Lib.hid s3; clear s3
  have S4 := Lib.hid s4; clear s4
  have S5 := Lib.hid s5; clear s5
  have S6 := Lib.hid s6; clear s6
  have S7 := Lib.hid s7; clear s7
  have S8 := Lib.hid s8; clear s8
  clear hf
  go_enter Tryd.func6, Tryd.ntmps6
  go_wp2_with fail
  have HE : Ext w (((w.alloc (.cells #[.int .i64 d.broker.width, .slice A0 d.broker.log.entries.length c0, .slice A1 d.broker.receipts.length c1, .slice A2 d.broker.heads.length c2, .int .i64 d.broker.sealed.leaves.size, .slice A3 d.broker.sealed.leaves.peaks.length c3, .int .i64 d.broker.sealed.taken.size, .slice A4 d.broker.sealed.taken.peaks.length c4, .int .i64 d.broker.sealed.head.number, .int .i64 d.broker.sealed.head.size, .string d.broker.sealed.head.root, .int .i64 d.broker.sealed.head.taken, .string d.broker.sealed.head.takenRoot, .slice A5 d.disk.files.length c5, .slice A6 d.clients.length c6, .slice A7 d.given.length c7, .slice A8 d.items.length c8] 42)).alloc (.cells #[.int .i64 0, .slice none 0 0, .slice none 0 0, .slice none 0 0, .int .i64 0, .slice none 0 0, .int .i64 0, .slice none 0 0, .int .i64 0, .int .i64 0, .string ⟨#[]⟩, .int .i64 0, .string ⟨#[]⟩, .slice none 0 0, .slice none 0 0, .slice none 0 0, .slice none 0 0] 61)).alloc (.cells #[.int .i64 0, .slice none 0 0, .slice none 0 0, .slice none 0 0, .int .i64 0, .slice none 0 0, .int .i64 0, .slice none 0 0, .int .i64 0, .int .i64 0, .string ⟨#[]⟩, .int .i64 0, .string ⟨#[]⟩, .slice none 0 0, .slice none 0 0, .slice none 0 0, .slice none 0 0] 61)) := Ext.new (Ext.new (Ext.new (Below.refl _ w) _) _) _
  refine (toBroker_any d.broker A0 c0 A1 c1 A2 c2 A3 c3 A4 c4 _ (S0.out.ext HE) (S1.out.ext HE) (S2.out.ext HE) (S3.out.ext HE) (S4.out.ext HE) l_broker).mono ?_
  rintro e x0 ⟨cs, rfl, ⟨G0, D0, G1, D1, G2, D2, G3, D3, G4, D4, rfl, t0, t1, t2, t3, t4⟩, hx⟩
  have B0 := (((Blk.new _ _ _).alloc _).alloc _).ext hx
  have B1 := ((Blk.new _ _ _).alloc _).ext hx
  have B2 := (Blk.new _ _ _).ext hx
  have he := HE.next hx
  have hgs : w.heap.size + 1 + 1 + 1 ≤ w.heap.size + 1 + 1 + 1 := Nat.le_refl _
  simp only [World.size_alloc] at B1 B2
  have T0 : SlF (FromB (w.heap.size + 1 + 1 + 1)) EntryD.cells 5 x0 G0 d.broker.log.entries D0 := t0.mono (fun b hb => by unfold FromB at *; simp only [World.size_alloc] at hb; omega)
  have T1 : SlF (FromB (w.heap.size + 1 + 1 + 1)) ReceiptD.cells 3 x0 G1 d.broker.receipts D1 := t1.mono (fun b hb => by unfold FromB at *; simp only [World.size_alloc] at hb; omega)
  have T2 : SlF (FromB (w.heap.size + 1 + 1 + 1)) HeadD.cells 5 x0 G2 d.broker.heads D2 := t2.mono (fun b hb => by unfold FromB at *; simp only [World.size_alloc] at hb; omega)
  have T3 : SlF (FromB (w.heap.size + 1 + 1 + 1)) sone 1 x0 G3 d.broker.sealed.leaves.peaks D3 := t3.mono (fun b hb => by unfold FromB at *; simp only [World.size_alloc] at hb; omega)
  have T4 : SlF (FromB (w.heap.size + 1 + 1 + 1)) sone 1 x0 G4 d.broker.sealed.taken.peaks D4 := t4.mono (fun b hb => by unfold FromB at *; simp only [World.size_alloc] at hb; omega)
  clear hx HE hgs
  obtain ⟨r0, f0⟩ := B0.rules
  obtain ⟨r2, f2⟩ := B2.rules
  go_upto_region 3 with fail
  have he_ := ext_setCells (W := w) (g := (w.heap.size + 1 + 1)) (by omega) [.int .i64 d.broker.width, .slice G0 d.broker.log.entries.length D0, .slice G1 d.broker.receipts.length D1, .slice G2 d.broker.heads.length D2, .int .i64 d.broker.sealed.leaves.size, .slice G3 d.broker.sealed.leaves.peaks.length D3, .int .i64 d.broker.sealed.taken.size, .slice G4 d.broker.sealed.taken.peaks.length D4, .int .i64 d.broker.sealed.head.number, .int .i64 d.broker.sealed.head.size, .string d.broker.sealed.head.root, .int .i64 d.broker.sealed.head.taken, .string d.broker.sealed.head.takenRoot] 0 x0 he
  have C2 := B2.put 0 [.int .i64 d.broker.width, .slice G0 d.broker.log.entries.length D0, .slice G1 d.broker.receipts.length D1, .slice G2 d.broker.heads.length D2, .int .i64 d.broker.sealed.leaves.size, .slice G3 d.broker.sealed.leaves.peaks.length D3, .int .i64 d.broker.sealed.taken.size, .slice G4 d.broker.sealed.taken.peaks.length D4, .int .i64 d.broker.sealed.head.number, .int .i64 d.broker.sealed.head.size, .string d.broker.sealed.head.root, .int .i64 d.broker.sealed.head.taken, .string d.broker.sealed.head.takenRoot] #[.int .i64 d.broker.width, .slice G0 d.broker.log.entries.length D0, .slice G1 d.broker.receipts.length D1, .slice G2 d.broker.heads.length D2, .int .i64 d.broker.sealed.leaves.size, .slice G3 d.broker.sealed.leaves.peaks.length D3, .int .i64 d.broker.sealed.taken.size, .slice G4 d.broker.sealed.taken.peaks.length D4, .int .i64 d.broker.sealed.head.number, .int .i64 d.broker.sealed.head.size, .string d.broker.sealed.head.root, .int .i64 d.broker.sealed.head.taken, .string d.broker.sealed.head.takenRoot, .slice none 0 0, .slice none 0 0, .slice none 0 0, .slice none 0 0] (by simp) rfl
  have C1 := B1.farCells (g' := (w.heap.size + 1 + 1)) (by omega) [.int .i64 d.broker.width, .slice G0 d.broker.log.entries.length D0, .slice G1 d.broker.receipts.length D1, .slice G2 d.broker.heads.length D2, .int .i64 d.broker.sealed.leaves.size, .slice G3 d.broker.sealed.leaves.peaks.length D3, .int .i64 d.broker.sealed.taken.size, .slice G4 d.broker.sealed.taken.peaks.length D4, .int .i64 d.broker.sealed.head.number, .int .i64 d.broker.sealed.head.size, .string d.broker.sealed.head.root, .int .i64 d.broker.sealed.head.taken, .string d.broker.sealed.head.takenRoot] 0
  have C0 := B0.farCells (g' := (w.heap.size + 1 + 1)) (by omega) [.int .i64 d.broker.width, .slice G0 d.broker.log.entries.length D0, .slice G1 d.broker.receipts.length D1, .slice G2 d.broker.heads.length D2, .int .i64 d.broker.sealed.leaves.size, .slice G3 d.broker.sealed.leaves.peaks.length D3, .int .i64 d.broker.sealed.taken.size, .slice G4 d.broker.sealed.taken.peaks.length D4, .int .i64 d.broker.sealed.head.number, .int .i64 d.broker.sealed.head.size, .string d.broker.sealed.head.root, .int .i64 d.broker.sealed.head.taken, .string d.broker.sealed.head.takenRoot] 0
  replace T0 := T0.keep (Keep.setCells (g := (w.heap.size + 1 + 1)) (by unfold FromB; omega) [.int .i64 d.broker.width, .slice G0 d.broker.log.entries.length D0, .slice G1 d.broker.receipts.length D1, .slice G2 d.broker.heads.length D2, .int .i64 d.broker.sealed.leaves.size, .slice G3 d.broker.sealed.leaves.peaks.length D3, .int .i64 d.broker.sealed.taken.size, .slice G4 d.broker.sealed.taken.peaks.length D4, .int .i64 d.broker.sealed.head.number, .int .i64 d.broker.sealed.head.size, .string d.broker.sealed.head.root, .int .i64 d.broker.sealed.head.taken, .string d.broker.sealed.head.takenRoot] 0 x0)
  replace T1 := T1.keep (Keep.setCells (g := (w.heap.size + 1 + 1)) (by unfold FromB; omega) [.int .i64 d.broker.width, .slice G0 d.broker.log.entries.length D0, .slice G1 d.broker.receipts.length D1, .slice G2 d.broker.heads.length D2, .int .i64 d.broker.sealed.leaves.size, .slice G3 d.broker.sealed.leaves.peaks.length D3, .int .i64 d.broker.sealed.taken.size, .slice G4 d.broker.sealed.taken.peaks.length D4, .int .i64 d.broker.sealed.head.number, .int .i64 d.broker.sealed.head.size, .string d.broker.sealed.head.root, .int .i64 d.broker.sealed.head.taken, .string d.broker.sealed.head.takenRoot] 0 x0)
  replace T2 := T2.keep (Keep.setCells (g := (w.heap.size + 1 + 1)) (by unfold FromB; omega) [.int .i64 d.broker.width, .slice G0 d.broker.log.entries.length D0, .slice G1 d.broker.receipts.length D1, .slice G2 d.broker.heads.length D2, .int .i64 d.broker.sealed.leaves.size, .slice G3 d.broker.sealed.leaves.peaks.length D3, .int .i64 d.broker.sealed.taken.size, .slice G4 d.broker.sealed.taken.peaks.length D4, .int .i64 d.broker.sealed.head.number, .int .i64 d.broker.sealed.head.size, .string d.broker.sealed.head.root, .int .i64 d.broker.sealed.head.taken, .string d.broker.sealed.head.takenRoot] 0 x0)
  replace T3 := T3.keep (Keep.setCells (g := (w.heap.size + 1 + 1)) (by unfold FromB; omega) [.int .i64 d.broker.width, .slice G0 d.broker.log.entries.length D0, .slice G1 d.broker.receipts.length D1, .slice G2 d.broker.heads.length D2, .int .i64 d.broker.sealed.leaves.size, .slice G3 d.broker.sealed.leaves.peaks.length D3, .int .i64 d.broker.sealed.taken.size, .slice G4 d.broker.sealed.taken.peaks.length D4, .int .i64 d.broker.sealed.head.number, .int .i64 d.broker.sealed.head.size, .string d.broker.sealed.head.root, .int .i64 d.broker.sealed.head.taken, .string d.broker.sealed.head.takenRoot] 0 x0)
  replace T4 := T4.keep (Keep.setCells (g := (w.heap.size + 1 + 1)) (by unfold FromB; omega) [.int .i64 d.broker.width, .slice G0 d.broker.log.entries.length D0, .slice G1 d.broker.receipts.length D1, .slice G2 d.broker.heads.length D2, .int .i64 d.broker.sealed.leaves.size, .slice G3 d.broker.sealed.leaves.peaks.length D3, .int .i64 d.broker.sealed.taken.size, .slice G4 d.broker.sealed.taken.peaks.length D4, .int .i64 d.broker.sealed.head.number, .int .i64 d.broker.sealed.head.size, .string d.broker.sealed.head.root, .int .i64 d.broker.sealed.head.taken, .string d.broker.sealed.head.takenRoot] 0 x0)
  clear r0 f0 r2 f2 B0 B1 B2 he
  change Code.wp _ _ _ _ (x0.setCells (w.heap.size + 1 + 1) 0 [.int .i64 d.broker.width, .slice G0 d.broker.log.entries.length D0, .slice G1 d.broker.receipts.length D1, .slice G2 d.broker.heads.length D2, .int .i64 d.broker.sealed.leaves.size, .slice G3 d.broker.sealed.leaves.peaks.length D3, .int .i64 d.broker.sealed.taken.size, .slice G4 d.broker.sealed.taken.peaks.length D4, .int .i64 d.broker.sealed.head.number, .int .i64 d.broker.sealed.head.size, .string d.broker.sealed.head.root, .int .i64 d.broker.sealed.head.taken, .string d.broker.sealed.head.takenRoot])
  generalize x0.setCells (w.heap.size + 1 + 1) 0 [.int .i64 d.broker.width, .slice G0 d.broker.log.entries.length D0, .slice G1 d.broker.receipts.length D1, .slice G2 d.broker.heads.length D2, .int .i64 d.broker.sealed.leaves.size, .slice G3 d.broker.sealed.leaves.peaks.length D3, .int .i64 d.broker.sealed.taken.size, .slice G4 d.broker.sealed.taken.peaks.length D4, .int .i64 d.broker.sealed.head.number, .int .i64 d.broker.sealed.head.size, .string d.broker.sealed.head.root, .int .i64 d.broker.sealed.head.taken, .string d.broker.sealed.head.takenRoot] = y0 at *
  have B0 := C0; have B1 := C1; have B2 := C2; have he := he_
  clear C0 C1 C2 he_
  obtain ⟨r0, f0⟩ := B0.rules
  obtain ⟨r2, f2⟩ := B2.rules
  go_wp2_with fail
  refine (toDisk_any d.disk A5 c5 _ (S5.out.ext he) l_disk).mono ?_
  rintro e x1 ⟨cs, rfl, ⟨G5, D5, rfl, t5⟩, hx⟩
  have hsz : w.heap.size + 1 + 1 + 1 ≤ y0.heap.size := B2.lt
  replace B0 := B0.ext hx; replace B1 := B1.ext hx; replace B2 := B2.ext hx; replace he := he.next hx
  replace T0 := (T0.ext hx)
  replace T1 := (T1.ext hx)
  replace T2 := (T2.ext hx)
  replace T3 := (T3.ext hx)
  replace T4 := (T4.ext hx)
  have T5 : SlF (FromB (w.heap.size + 1 + 1 + 1)) sone 1 x1 G5 d.disk.files D5 := t5.mono (fun b hb => by unfold FromB at *; omega)
  clear hx hsz
  clear r0 f0 r2 f2
  obtain ⟨r0, f0⟩ := B0.rules
  obtain ⟨r2, f2⟩ := B2.rules
  go_upto_region 4 with fail
  have he_ := ext_setCells (W := w) (g := (w.heap.size + 1 + 1)) (by omega) [.slice G5 d.disk.files.length D5] 13 x1 he
  have C2 := B2.put 13 [.slice G5 d.disk.files.length D5] #[.int .i64 d.broker.width, .slice G0 d.broker.log.entries.length D0, .slice G1 d.broker.receipts.length D1, .slice G2 d.broker.heads.length D2, .int .i64 d.broker.sealed.leaves.size, .slice G3 d.broker.sealed.leaves.peaks.length D3, .int .i64 d.broker.sealed.taken.size, .slice G4 d.broker.sealed.taken.peaks.length D4, .int .i64 d.broker.sealed.head.number, .int .i64 d.broker.sealed.head.size, .string d.broker.sealed.head.root, .int .i64 d.broker.sealed.head.taken, .string d.broker.sealed.head.takenRoot, .slice G5 d.disk.files.length D5, .slice none 0 0, .slice none 0 0, .slice none 0 0] (by simp) rfl
  have C1 := B1.farCells (g' := (w.heap.size + 1 + 1)) (by omega) [.slice G5 d.disk.files.length D5] 13
  have C0 := B0.farCells (g' := (w.heap.size + 1 + 1)) (by omega) [.slice G5 d.disk.files.length D5] 13
  replace T0 := T0.keep (Keep.setCells (g := (w.heap.size + 1 + 1)) (by unfold FromB; omega) [.slice G5 d.disk.files.length D5] 13 x1)
  replace T1 := T1.keep (Keep.setCells (g := (w.heap.size + 1 + 1)) (by unfold FromB; omega) [.slice G5 d.disk.files.length D5] 13 x1)
  replace T2 := T2.keep (Keep.setCells (g := (w.heap.size + 1 + 1)) (by unfold FromB; omega) [.slice G5 d.disk.files.length D5] 13 x1)
  replace T3 := T3.keep (Keep.setCells (g := (w.heap.size + 1 + 1)) (by unfold FromB; omega) [.slice G5 d.disk.files.length D5] 13 x1)
  replace T4 := T4.keep (Keep.setCells (g := (w.heap.size + 1 + 1)) (by unfold FromB; omega) [.slice G5 d.disk.files.length D5] 13 x1)
  replace T5 := T5.keep (Keep.setCells (g := (w.heap.size + 1 + 1)) (by unfold FromB; omega) [.slice G5 d.disk.files.length D5] 13 x1)
  clear r0 f0 r2 f2 B0 B1 B2 he
  change Code.wp _ _ _ _ (x1.setCells (w.heap.size + 1 + 1) 13 [.slice G5 d.disk.files.length D5])
  generalize x1.setCells (w.heap.size + 1 + 1) 13 [.slice G5 d.disk.files.length D5] = y1 at *
  have B0 := C0; have B1 := C1; have B2 := C2; have he := he_
  clear C0 C1 C2 he_
  obtain ⟨r0, f0⟩ := B0.rules
  obtain ⟨r2, f2⟩ := B2.rules
  go_wp2_with fail
  refine (toClientS_any A6 c6 d.clients _ (SlN.ext ClientD.steady S6.out he) l_clients L_clients.out).mono ?_
  rintro e x2 ⟨g6, rfl, hg, t6, hx⟩
  have hsz : w.heap.size + 1 + 1 + 1 ≤ y1.heap.size := B2.lt
  replace B0 := B0.ext hx; replace B1 := B1.ext hx; replace B2 := B2.ext hx; replace he := he.next hx
  replace T0 := (T0.ext hx)
  replace T1 := (T1.ext hx)
  replace T2 := (T2.ext hx)
  replace T3 := (T3.ext hx)
  replace T4 := (T4.ext hx)
  replace T5 := (T5.ext hx)
  have T6 : SlN (FromB (w.heap.size + 1 + 1 + 1)) ClientD.In 8 x2 (some ⟨g6, 0, none⟩) d.clients d.clients.length := SlN.mono ClientD.steady t6 (fun b hb => by unfold FromB at *; omega)
  clear hx hsz
  clear r0 f0 r2 f2
  obtain ⟨r0, f0⟩ := B0.rules
  obtain ⟨r2, f2⟩ := B2.rules
  go_upto_region 5 with fail
  have he_ := ext_setCells (W := w) (g := (w.heap.size + 1 + 1)) (by omega) [.slice (some ⟨g6, 0, none⟩) d.clients.length d.clients.length] 14 x2 he
  have C2 := B2.put 14 [.slice (some ⟨g6, 0, none⟩) d.clients.length d.clients.length] #[.int .i64 d.broker.width, .slice G0 d.broker.log.entries.length D0, .slice G1 d.broker.receipts.length D1, .slice G2 d.broker.heads.length D2, .int .i64 d.broker.sealed.leaves.size, .slice G3 d.broker.sealed.leaves.peaks.length D3, .int .i64 d.broker.sealed.taken.size, .slice G4 d.broker.sealed.taken.peaks.length D4, .int .i64 d.broker.sealed.head.number, .int .i64 d.broker.sealed.head.size, .string d.broker.sealed.head.root, .int .i64 d.broker.sealed.head.taken, .string d.broker.sealed.head.takenRoot, .slice G5 d.disk.files.length D5, .slice (some ⟨g6, 0, none⟩) d.clients.length d.clients.length, .slice none 0 0, .slice none 0 0] (by simp) rfl
  have C1 := B1.farCells (g' := (w.heap.size + 1 + 1)) (by omega) [.slice (some ⟨g6, 0, none⟩) d.clients.length d.clients.length] 14
  have C0 := B0.farCells (g' := (w.heap.size + 1 + 1)) (by omega) [.slice (some ⟨g6, 0, none⟩) d.clients.length d.clients.length] 14
  replace T0 := T0.keep (Keep.setCells (g := (w.heap.size + 1 + 1)) (by unfold FromB; omega) [.slice (some ⟨g6, 0, none⟩) d.clients.length d.clients.length] 14 x2)
  replace T1 := T1.keep (Keep.setCells (g := (w.heap.size + 1 + 1)) (by unfold FromB; omega) [.slice (some ⟨g6, 0, none⟩) d.clients.length d.clients.length] 14 x2)
  replace T2 := T2.keep (Keep.setCells (g := (w.heap.size + 1 + 1)) (by unfold FromB; omega) [.slice (some ⟨g6, 0, none⟩) d.clients.length d.clients.length] 14 x2)
  replace T3 := T3.keep (Keep.setCells (g := (w.heap.size + 1 + 1)) (by unfold FromB; omega) [.slice (some ⟨g6, 0, none⟩) d.clients.length d.clients.length] 14 x2)
  replace T4 := T4.keep (Keep.setCells (g := (w.heap.size + 1 + 1)) (by unfold FromB; omega) [.slice (some ⟨g6, 0, none⟩) d.clients.length d.clients.length] 14 x2)
  replace T5 := T5.keep (Keep.setCells (g := (w.heap.size + 1 + 1)) (by unfold FromB; omega) [.slice (some ⟨g6, 0, none⟩) d.clients.length d.clients.length] 14 x2)
  replace T6 := SlN.keep ClientD.steady T6 (Keep.setCells (g := (w.heap.size + 1 + 1)) (by unfold FromB; omega) [.slice (some ⟨g6, 0, none⟩) d.clients.length d.clients.length] 14 x2)
  clear r0 f0 r2 f2 B0 B1 B2 he
  change Code.wp _ _ _ _ (x2.setCells (w.heap.size + 1 + 1) 14 [.slice (some ⟨g6, 0, none⟩) d.clients.length d.clients.length])
  generalize x2.setCells (w.heap.size + 1 + 1) 14 [.slice (some ⟨g6, 0, none⟩) d.clients.length d.clients.length] = y2 at *
  have B0 := C0; have B1 := C1; have B2 := C2; have he := he_
  clear C0 C1 C2 he_
  obtain ⟨r0, f0⟩ := B0.rules
  obtain ⟨r2, f2⟩ := B2.rules
  go_wp2_with fail
  refine (toGivenS_any A7 c7 d.given _ (S7.out.ext he).reads l_given).mono ?_
  rintro e x3 ⟨g7, rfl, hg, bg, hx⟩
  have hsz : w.heap.size + 1 + 1 + 1 ≤ y2.heap.size := B2.lt
  replace B0 := B0.ext hx; replace B1 := B1.ext hx; replace B2 := B2.ext hx; replace he := he.next hx
  replace T0 := (T0.ext hx)
  replace T1 := (T1.ext hx)
  replace T2 := (T2.ext hx)
  replace T3 := (T3.ext hx)
  replace T4 := (T4.ext hx)
  replace T5 := (T5.ext hx)
  replace T6 := (SlN.ext ClientD.steady T6 hx)
  have T7 : SlF (FromB (w.heap.size + 1 + 1 + 1)) GivenD.cells 7 x3 (some ⟨g7, 0, none⟩) d.given d.given.length := SlF.new GivenD.cells_length bg l_given (show _ ≤ _ by omega)
  clear hx hsz
  clear r0 f0 r2 f2
  obtain ⟨r0, f0⟩ := B0.rules
  obtain ⟨r2, f2⟩ := B2.rules
  go_upto_region 6 with fail
  have he_ := ext_setCells (W := w) (g := (w.heap.size + 1 + 1)) (by omega) [.slice (some ⟨g7, 0, none⟩) d.given.length d.given.length] 15 x3 he
  have C2 := B2.put 15 [.slice (some ⟨g7, 0, none⟩) d.given.length d.given.length] #[.int .i64 d.broker.width, .slice G0 d.broker.log.entries.length D0, .slice G1 d.broker.receipts.length D1, .slice G2 d.broker.heads.length D2, .int .i64 d.broker.sealed.leaves.size, .slice G3 d.broker.sealed.leaves.peaks.length D3, .int .i64 d.broker.sealed.taken.size, .slice G4 d.broker.sealed.taken.peaks.length D4, .int .i64 d.broker.sealed.head.number, .int .i64 d.broker.sealed.head.size, .string d.broker.sealed.head.root, .int .i64 d.broker.sealed.head.taken, .string d.broker.sealed.head.takenRoot, .slice G5 d.disk.files.length D5, .slice (some ⟨g6, 0, none⟩) d.clients.length d.clients.length, .slice (some ⟨g7, 0, none⟩) d.given.length d.given.length, .slice none 0 0] (by simp) rfl
  have C1 := B1.farCells (g' := (w.heap.size + 1 + 1)) (by omega) [.slice (some ⟨g7, 0, none⟩) d.given.length d.given.length] 15
  have C0 := B0.farCells (g' := (w.heap.size + 1 + 1)) (by omega) [.slice (some ⟨g7, 0, none⟩) d.given.length d.given.length] 15
  replace T0 := T0.keep (Keep.setCells (g := (w.heap.size + 1 + 1)) (by unfold FromB; omega) [.slice (some ⟨g7, 0, none⟩) d.given.length d.given.length] 15 x3)
  replace T1 := T1.keep (Keep.setCells (g := (w.heap.size + 1 + 1)) (by unfold FromB; omega) [.slice (some ⟨g7, 0, none⟩) d.given.length d.given.length] 15 x3)
  replace T2 := T2.keep (Keep.setCells (g := (w.heap.size + 1 + 1)) (by unfold FromB; omega) [.slice (some ⟨g7, 0, none⟩) d.given.length d.given.length] 15 x3)
  replace T3 := T3.keep (Keep.setCells (g := (w.heap.size + 1 + 1)) (by unfold FromB; omega) [.slice (some ⟨g7, 0, none⟩) d.given.length d.given.length] 15 x3)
  replace T4 := T4.keep (Keep.setCells (g := (w.heap.size + 1 + 1)) (by unfold FromB; omega) [.slice (some ⟨g7, 0, none⟩) d.given.length d.given.length] 15 x3)
  replace T5 := T5.keep (Keep.setCells (g := (w.heap.size + 1 + 1)) (by unfold FromB; omega) [.slice (some ⟨g7, 0, none⟩) d.given.length d.given.length] 15 x3)
  replace T6 := SlN.keep ClientD.steady T6 (Keep.setCells (g := (w.heap.size + 1 + 1)) (by unfold FromB; omega) [.slice (some ⟨g7, 0, none⟩) d.given.length d.given.length] 15 x3)
  replace T7 := T7.keep (Keep.setCells (g := (w.heap.size + 1 + 1)) (by unfold FromB; omega) [.slice (some ⟨g7, 0, none⟩) d.given.length d.given.length] 15 x3)
  clear r0 f0 r2 f2 B0 B1 B2 he
  change Code.wp _ _ _ _ (x3.setCells (w.heap.size + 1 + 1) 15 [.slice (some ⟨g7, 0, none⟩) d.given.length d.given.length])
  generalize x3.setCells (w.heap.size + 1 + 1) 15 [.slice (some ⟨g7, 0, none⟩) d.given.length d.given.length] = y3 at *
  have B0 := C0; have B1 := C1; have B2 := C2; have he := he_
  clear C0 C1 C2 he_
  obtain ⟨r0, f0⟩ := B0.rules
  obtain ⟨r2, f2⟩ := B2.rules
  go_wp2_with fail
  refine (toItemS_any A8 c8 d.items _ (SlN.ext ItemD.steady S8.out he) l_items L_items.out).mono ?_
  rintro e x4 ⟨g8, rfl, hg, t8, hx⟩
  have hsz : w.heap.size + 1 + 1 + 1 ≤ y3.heap.size := B2.lt
  replace B0 := B0.ext hx; replace B1 := B1.ext hx; replace B2 := B2.ext hx; replace he := he.next hx
  replace T0 := (T0.ext hx)
  replace T1 := (T1.ext hx)
  replace T2 := (T2.ext hx)
  replace T3 := (T3.ext hx)
  replace T4 := (T4.ext hx)
  replace T5 := (T5.ext hx)
  replace T6 := (SlN.ext ClientD.steady T6 hx)
  replace T7 := (T7.ext hx)
  have T8 : SlN (FromB (w.heap.size + 1 + 1 + 1)) ItemD.In 22 x4 (some ⟨g8, 0, none⟩) d.items d.items.length := SlN.mono ItemD.steady t8 (fun b hb => by unfold FromB at *; omega)
  clear hx hsz
  clear r0 f0 r2 f2
  obtain ⟨r0, f0⟩ := B0.rules
  obtain ⟨r2, f2⟩ := B2.rules
  go_upto_region 7 with fail
  have he_ := ext_setCells (W := w) (g := (w.heap.size + 1 + 1)) (by omega) [.slice (some ⟨g8, 0, none⟩) d.items.length d.items.length] 16 x4 he
  have C2 := B2.put 16 [.slice (some ⟨g8, 0, none⟩) d.items.length d.items.length] #[.int .i64 d.broker.width, .slice G0 d.broker.log.entries.length D0, .slice G1 d.broker.receipts.length D1, .slice G2 d.broker.heads.length D2, .int .i64 d.broker.sealed.leaves.size, .slice G3 d.broker.sealed.leaves.peaks.length D3, .int .i64 d.broker.sealed.taken.size, .slice G4 d.broker.sealed.taken.peaks.length D4, .int .i64 d.broker.sealed.head.number, .int .i64 d.broker.sealed.head.size, .string d.broker.sealed.head.root, .int .i64 d.broker.sealed.head.taken, .string d.broker.sealed.head.takenRoot, .slice G5 d.disk.files.length D5, .slice (some ⟨g6, 0, none⟩) d.clients.length d.clients.length, .slice (some ⟨g7, 0, none⟩) d.given.length d.given.length, .slice (some ⟨g8, 0, none⟩) d.items.length d.items.length] (by simp) rfl
  have C1 := B1.farCells (g' := (w.heap.size + 1 + 1)) (by omega) [.slice (some ⟨g8, 0, none⟩) d.items.length d.items.length] 16
  have C0 := B0.farCells (g' := (w.heap.size + 1 + 1)) (by omega) [.slice (some ⟨g8, 0, none⟩) d.items.length d.items.length] 16
  replace T0 := T0.keep (Keep.setCells (g := (w.heap.size + 1 + 1)) (by unfold FromB; omega) [.slice (some ⟨g8, 0, none⟩) d.items.length d.items.length] 16 x4)
  replace T1 := T1.keep (Keep.setCells (g := (w.heap.size + 1 + 1)) (by unfold FromB; omega) [.slice (some ⟨g8, 0, none⟩) d.items.length d.items.length] 16 x4)
  replace T2 := T2.keep (Keep.setCells (g := (w.heap.size + 1 + 1)) (by unfold FromB; omega) [.slice (some ⟨g8, 0, none⟩) d.items.length d.items.length] 16 x4)
  replace T3 := T3.keep (Keep.setCells (g := (w.heap.size + 1 + 1)) (by unfold FromB; omega) [.slice (some ⟨g8, 0, none⟩) d.items.length d.items.length] 16 x4)
  replace T4 := T4.keep (Keep.setCells (g := (w.heap.size + 1 + 1)) (by unfold FromB; omega) [.slice (some ⟨g8, 0, none⟩) d.items.length d.items.length] 16 x4)
  replace T5 := T5.keep (Keep.setCells (g := (w.heap.size + 1 + 1)) (by unfold FromB; omega) [.slice (some ⟨g8, 0, none⟩) d.items.length d.items.length] 16 x4)
  replace T6 := SlN.keep ClientD.steady T6 (Keep.setCells (g := (w.heap.size + 1 + 1)) (by unfold FromB; omega) [.slice (some ⟨g8, 0, none⟩) d.items.length d.items.length] 16 x4)
  replace T7 := T7.keep (Keep.setCells (g := (w.heap.size + 1 + 1)) (by unfold FromB; omega) [.slice (some ⟨g8, 0, none⟩) d.items.length d.items.length] 16 x4)
  replace T8 := SlN.keep ItemD.steady T8 (Keep.setCells (g := (w.heap.size + 1 + 1)) (by unfold FromB; omega) [.slice (some ⟨g8, 0, none⟩) d.items.length d.items.length] 16 x4)
  clear r0 f0 r2 f2 B0 B1 B2 he
  change Code.wp _ _ _ _ (x4.setCells (w.heap.size + 1 + 1) 16 [.slice (some ⟨g8, 0, none⟩) d.items.length d.items.length])
  generalize x4.setCells (w.heap.size + 1 + 1) 16 [.slice (some ⟨g8, 0, none⟩) d.items.length d.items.length] = y4 at *
  have B0 := C0; have B1 := C1; have B2 := C2; have he := he_
  clear C0 C1 C2 he_
  obtain ⟨r0, f0⟩ := B0.rules
  obtain ⟨r2, f2⟩ := B2.rules
  have ld := Lib.hid (B2.range)
  have st := Lib.hid (B1.there 0 17 (by decide))
  have O1 : Hid ((#[.int .i64 d.broker.width, .slice G0 d.broker.log.entries.length D0, .slice G1 d.broker.receipts.length D1, .slice G2 d.broker.heads.length D2, .int .i64 d.broker.sealed.leaves.size, .slice G3 d.broker.sealed.leaves.peaks.length D3, .int .i64 d.broker.sealed.taken.size, .slice G4 d.broker.sealed.taken.peaks.length D4, .int .i64 d.broker.sealed.head.number, .int .i64 d.broker.sealed.head.size, .string d.broker.sealed.head.root, .int .i64 d.broker.sealed.head.taken, .string d.broker.sealed.head.takenRoot, .slice G5 d.disk.files.length D5, .slice (some ⟨g6, 0, none⟩) d.clients.length d.clients.length, .slice (some ⟨g7, 0, none⟩) d.given.length d.given.length, .slice (some ⟨g8, 0, none⟩) d.items.length d.items.length] : Array Value).all (·.oneCell') = true) := Lib.hid (all_oneCell_toArray (by simp [Value.oneCell']))
  clear r0 f0 r2 f2
  have he_ := ext_setCells (W := w) (g := w.heap.size + 1) (by omega) [.int .i64 d.broker.width, .slice G0 d.broker.log.entries.length D0, .slice G1 d.broker.receipts.length D1, .slice G2 d.broker.heads.length D2, .int .i64 d.broker.sealed.leaves.size, .slice G3 d.broker.sealed.leaves.peaks.length D3, .int .i64 d.broker.sealed.taken.size, .slice G4 d.broker.sealed.taken.peaks.length D4, .int .i64 d.broker.sealed.head.number, .int .i64 d.broker.sealed.head.size, .string d.broker.sealed.head.root, .int .i64 d.broker.sealed.head.taken, .string d.broker.sealed.head.takenRoot, .slice G5 d.disk.files.length D5, .slice (some ⟨g6, 0, none⟩) d.clients.length d.clients.length, .slice (some ⟨g7, 0, none⟩) d.given.length d.given.length, .slice (some ⟨g8, 0, none⟩) d.items.length d.items.length] 0 y4 he
  have E1 := B1.put 0 [.int .i64 d.broker.width, .slice G0 d.broker.log.entries.length D0, .slice G1 d.broker.receipts.length D1, .slice G2 d.broker.heads.length D2, .int .i64 d.broker.sealed.leaves.size, .slice G3 d.broker.sealed.leaves.peaks.length D3, .int .i64 d.broker.sealed.taken.size, .slice G4 d.broker.sealed.taken.peaks.length D4, .int .i64 d.broker.sealed.head.number, .int .i64 d.broker.sealed.head.size, .string d.broker.sealed.head.root, .int .i64 d.broker.sealed.head.taken, .string d.broker.sealed.head.takenRoot, .slice G5 d.disk.files.length D5, .slice (some ⟨g6, 0, none⟩) d.clients.length d.clients.length, .slice (some ⟨g7, 0, none⟩) d.given.length d.given.length, .slice (some ⟨g8, 0, none⟩) d.items.length d.items.length] #[.int .i64 d.broker.width, .slice G0 d.broker.log.entries.length D0, .slice G1 d.broker.receipts.length D1, .slice G2 d.broker.heads.length D2, .int .i64 d.broker.sealed.leaves.size, .slice G3 d.broker.sealed.leaves.peaks.length D3, .int .i64 d.broker.sealed.taken.size, .slice G4 d.broker.sealed.taken.peaks.length D4, .int .i64 d.broker.sealed.head.number, .int .i64 d.broker.sealed.head.size, .string d.broker.sealed.head.root, .int .i64 d.broker.sealed.head.taken, .string d.broker.sealed.head.takenRoot, .slice G5 d.disk.files.length D5, .slice (some ⟨g6, 0, none⟩) d.clients.length d.clients.length, .slice (some ⟨g7, 0, none⟩) d.given.length d.given.length, .slice (some ⟨g8, 0, none⟩) d.items.length d.items.length] (by simp) rfl
  replace T0 := T0.keep (Keep.setCells (g := w.heap.size + 1) (by unfold FromB; omega) [.int .i64 d.broker.width, .slice G0 d.broker.log.entries.length D0, .slice G1 d.broker.receipts.length D1, .slice G2 d.broker.heads.length D2, .int .i64 d.broker.sealed.leaves.size, .slice G3 d.broker.sealed.leaves.peaks.length D3, .int .i64 d.broker.sealed.taken.size, .slice G4 d.broker.sealed.taken.peaks.length D4, .int .i64 d.broker.sealed.head.number, .int .i64 d.broker.sealed.head.size, .string d.broker.sealed.head.root, .int .i64 d.broker.sealed.head.taken, .string d.broker.sealed.head.takenRoot, .slice G5 d.disk.files.length D5, .slice (some ⟨g6, 0, none⟩) d.clients.length d.clients.length, .slice (some ⟨g7, 0, none⟩) d.given.length d.given.length, .slice (some ⟨g8, 0, none⟩) d.items.length d.items.length] 0 y4)
  replace T1 := T1.keep (Keep.setCells (g := w.heap.size + 1) (by unfold FromB; omega) [.int .i64 d.broker.width, .slice G0 d.broker.log.entries.length D0, .slice G1 d.broker.receipts.length D1, .slice G2 d.broker.heads.length D2, .int .i64 d.broker.sealed.leaves.size, .slice G3 d.broker.sealed.leaves.peaks.length D3, .int .i64 d.broker.sealed.taken.size, .slice G4 d.broker.sealed.taken.peaks.length D4, .int .i64 d.broker.sealed.head.number, .int .i64 d.broker.sealed.head.size, .string d.broker.sealed.head.root, .int .i64 d.broker.sealed.head.taken, .string d.broker.sealed.head.takenRoot, .slice G5 d.disk.files.length D5, .slice (some ⟨g6, 0, none⟩) d.clients.length d.clients.length, .slice (some ⟨g7, 0, none⟩) d.given.length d.given.length, .slice (some ⟨g8, 0, none⟩) d.items.length d.items.length] 0 y4)
  replace T2 := T2.keep (Keep.setCells (g := w.heap.size + 1) (by unfold FromB; omega) [.int .i64 d.broker.width, .slice G0 d.broker.log.entries.length D0, .slice G1 d.broker.receipts.length D1, .slice G2 d.broker.heads.length D2, .int .i64 d.broker.sealed.leaves.size, .slice G3 d.broker.sealed.leaves.peaks.length D3, .int .i64 d.broker.sealed.taken.size, .slice G4 d.broker.sealed.taken.peaks.length D4, .int .i64 d.broker.sealed.head.number, .int .i64 d.broker.sealed.head.size, .string d.broker.sealed.head.root, .int .i64 d.broker.sealed.head.taken, .string d.broker.sealed.head.takenRoot, .slice G5 d.disk.files.length D5, .slice (some ⟨g6, 0, none⟩) d.clients.length d.clients.length, .slice (some ⟨g7, 0, none⟩) d.given.length d.given.length, .slice (some ⟨g8, 0, none⟩) d.items.length d.items.length] 0 y4)
  replace T3 := T3.keep (Keep.setCells (g := w.heap.size + 1) (by unfold FromB; omega) [.int .i64 d.broker.width, .slice G0 d.broker.log.entries.length D0, .slice G1 d.broker.receipts.length D1, .slice G2 d.broker.heads.length D2, .int .i64 d.broker.sealed.leaves.size, .slice G3 d.broker.sealed.leaves.peaks.length D3, .int .i64 d.broker.sealed.taken.size, .slice G4 d.broker.sealed.taken.peaks.length D4, .int .i64 d.broker.sealed.head.number, .int .i64 d.broker.sealed.head.size, .string d.broker.sealed.head.root, .int .i64 d.broker.sealed.head.taken, .string d.broker.sealed.head.takenRoot, .slice G5 d.disk.files.length D5, .slice (some ⟨g6, 0, none⟩) d.clients.length d.clients.length, .slice (some ⟨g7, 0, none⟩) d.given.length d.given.length, .slice (some ⟨g8, 0, none⟩) d.items.length d.items.length] 0 y4)
  replace T4 := T4.keep (Keep.setCells (g := w.heap.size + 1) (by unfold FromB; omega) [.int .i64 d.broker.width, .slice G0 d.broker.log.entries.length D0, .slice G1 d.broker.receipts.length D1, .slice G2 d.broker.heads.length D2, .int .i64 d.broker.sealed.leaves.size, .slice G3 d.broker.sealed.leaves.peaks.length D3, .int .i64 d.broker.sealed.taken.size, .slice G4 d.broker.sealed.taken.peaks.length D4, .int .i64 d.broker.sealed.head.number, .int .i64 d.broker.sealed.head.size, .string d.broker.sealed.head.root, .int .i64 d.broker.sealed.head.taken, .string d.broker.sealed.head.takenRoot, .slice G5 d.disk.files.length D5, .slice (some ⟨g6, 0, none⟩) d.clients.length d.clients.length, .slice (some ⟨g7, 0, none⟩) d.given.length d.given.length, .slice (some ⟨g8, 0, none⟩) d.items.length d.items.length] 0 y4)
  replace T5 := T5.keep (Keep.setCells (g := w.heap.size + 1) (by unfold FromB; omega) [.int .i64 d.broker.width, .slice G0 d.broker.log.entries.length D0, .slice G1 d.broker.receipts.length D1, .slice G2 d.broker.heads.length D2, .int .i64 d.broker.sealed.leaves.size, .slice G3 d.broker.sealed.leaves.peaks.length D3, .int .i64 d.broker.sealed.taken.size, .slice G4 d.broker.sealed.taken.peaks.length D4, .int .i64 d.broker.sealed.head.number, .int .i64 d.broker.sealed.head.size, .string d.broker.sealed.head.root, .int .i64 d.broker.sealed.head.taken, .string d.broker.sealed.head.takenRoot, .slice G5 d.disk.files.length D5, .slice (some ⟨g6, 0, none⟩) d.clients.length d.clients.length, .slice (some ⟨g7, 0, none⟩) d.given.length d.given.length, .slice (some ⟨g8, 0, none⟩) d.items.length d.items.length] 0 y4)
  replace T6 := SlN.keep ClientD.steady T6 (Keep.setCells (g := w.heap.size + 1) (by unfold FromB; omega) [.int .i64 d.broker.width, .slice G0 d.broker.log.entries.length D0, .slice G1 d.broker.receipts.length D1, .slice G2 d.broker.heads.length D2, .int .i64 d.broker.sealed.leaves.size, .slice G3 d.broker.sealed.leaves.peaks.length D3, .int .i64 d.broker.sealed.taken.size, .slice G4 d.broker.sealed.taken.peaks.length D4, .int .i64 d.broker.sealed.head.number, .int .i64 d.broker.sealed.head.size, .string d.broker.sealed.head.root, .int .i64 d.broker.sealed.head.taken, .string d.broker.sealed.head.takenRoot, .slice G5 d.disk.files.length D5, .slice (some ⟨g6, 0, none⟩) d.clients.length d.clients.length, .slice (some ⟨g7, 0, none⟩) d.given.length d.given.length, .slice (some ⟨g8, 0, none⟩) d.items.length d.items.length] 0 y4)
  replace T7 := T7.keep (Keep.setCells (g := w.heap.size + 1) (by unfold FromB; omega) [.int .i64 d.broker.width, .slice G0 d.broker.log.entries.length D0, .slice G1 d.broker.receipts.length D1, .slice G2 d.broker.heads.length D2, .int .i64 d.broker.sealed.leaves.size, .slice G3 d.broker.sealed.leaves.peaks.length D3, .int .i64 d.broker.sealed.taken.size, .slice G4 d.broker.sealed.taken.peaks.length D4, .int .i64 d.broker.sealed.head.number, .int .i64 d.broker.sealed.head.size, .string d.broker.sealed.head.root, .int .i64 d.broker.sealed.head.taken, .string d.broker.sealed.head.takenRoot, .slice G5 d.disk.files.length D5, .slice (some ⟨g6, 0, none⟩) d.clients.length d.clients.length, .slice (some ⟨g7, 0, none⟩) d.given.length d.given.length, .slice (some ⟨g8, 0, none⟩) d.items.length d.items.length] 0 y4)
  replace T8 := SlN.keep ItemD.steady T8 (Keep.setCells (g := w.heap.size + 1) (by unfold FromB; omega) [.int .i64 d.broker.width, .slice G0 d.broker.log.entries.length D0, .slice G1 d.broker.receipts.length D1, .slice G2 d.broker.heads.length D2, .int .i64 d.broker.sealed.leaves.size, .slice G3 d.broker.sealed.leaves.peaks.length D3, .int .i64 d.broker.sealed.taken.size, .slice G4 d.broker.sealed.taken.peaks.length D4, .int .i64 d.broker.sealed.head.number, .int .i64 d.broker.sealed.head.size, .string d.broker.sealed.head.root, .int .i64 d.broker.sealed.head.taken, .string d.broker.sealed.head.takenRoot, .slice G5 d.disk.files.length D5, .slice (some ⟨g6, 0, none⟩) d.clients.length d.clients.length, .slice (some ⟨g7, 0, none⟩) d.given.length d.given.length, .slice (some ⟨g8, 0, none⟩) d.items.length d.items.length] 0 y4)
  clear B0 B1 B2 he
  go_wp2_with (first | (refine wpList_load_mid rfl 61 _ rfl (w.heap.size + 1 + 1) 0 rfl [.int .i64 d.broker.width, .slice G0 d.broker.log.entries.length D0, .slice G1 d.broker.receipts.length D1, .slice G2 d.broker.heads.length D2, .int .i64 d.broker.sealed.leaves.size, .slice G3 d.broker.sealed.leaves.peaks.length D3, .int .i64 d.broker.sealed.taken.size, .slice G4 d.broker.sealed.taken.peaks.length D4, .int .i64 d.broker.sealed.head.number, .int .i64 d.broker.sealed.head.size, .string d.broker.sealed.head.root, .int .i64 d.broker.sealed.head.taken, .string d.broker.sealed.head.takenRoot, .slice G5 d.disk.files.length D5, .slice (some ⟨g6, 0, none⟩) d.clients.length d.clients.length, .slice (some ⟨g7, 0, none⟩) d.given.length d.given.length, .slice (some ⟨g8, 0, none⟩) d.items.length d.items.length] _ ld.out Tryd.underlying61 rfl (by kernel_rfl) ?_) | (refine wpList_store_mid rfl 61 _ _ rfl (w.heap.size + 1) 0 #[.int .i64 d.broker.width, .slice G0 d.broker.log.entries.length D0, .slice G1 d.broker.receipts.length D1, .slice G2 d.broker.heads.length D2, .int .i64 d.broker.sealed.leaves.size, .slice G3 d.broker.sealed.leaves.peaks.length D3, .int .i64 d.broker.sealed.taken.size, .slice G4 d.broker.sealed.taken.peaks.length D4, .int .i64 d.broker.sealed.head.number, .int .i64 d.broker.sealed.head.size, .string d.broker.sealed.head.root, .int .i64 d.broker.sealed.head.taken, .string d.broker.sealed.head.takenRoot, .slice G5 d.disk.files.length D5, .slice (some ⟨g6, 0, none⟩) d.clients.length d.clients.length, .slice (some ⟨g7, 0, none⟩) d.given.length d.given.length, .slice (some ⟨g8, 0, none⟩) d.items.length d.items.length] rfl rfl st.out (by kernel_rfl) O1.out ?_; change wpList _ _ _ _ _ (y4.setCells (w.heap.size + 1) 0 [.int .i64 d.broker.width, .slice G0 d.broker.log.entries.length D0, .slice G1 d.broker.receipts.length D1, .slice G2 d.broker.heads.length D2, .int .i64 d.broker.sealed.leaves.size, .slice G3 d.broker.sealed.leaves.peaks.length D3, .int .i64 d.broker.sealed.taken.size, .slice G4 d.broker.sealed.taken.peaks.length D4, .int .i64 d.broker.sealed.head.number, .int .i64 d.broker.sealed.head.size, .string d.broker.sealed.head.root, .int .i64 d.broker.sealed.head.taken, .string d.broker.sealed.head.takenRoot, .slice G5 d.disk.files.length D5, .slice (some ⟨g6, 0, none⟩) d.clients.length d.clients.length, .slice (some ⟨g7, 0, none⟩) d.given.length d.given.length, .slice (some ⟨g8, 0, none⟩) d.items.length d.items.length]); clear ld st O1; generalize y4.setCells (w.heap.size + 1) 0 [.int .i64 d.broker.width, .slice G0 d.broker.log.entries.length D0, .slice G1 d.broker.receipts.length D1, .slice G2 d.broker.heads.length D2, .int .i64 d.broker.sealed.leaves.size, .slice G3 d.broker.sealed.leaves.peaks.length D3, .int .i64 d.broker.sealed.taken.size, .slice G4 d.broker.sealed.taken.peaks.length D4, .int .i64 d.broker.sealed.head.number, .int .i64 d.broker.sealed.head.size, .string d.broker.sealed.head.root, .int .i64 d.broker.sealed.head.taken, .string d.broker.sealed.head.takenRoot, .slice G5 d.disk.files.length D5, .slice (some ⟨g6, 0, none⟩) d.clients.length d.clients.length, .slice (some ⟨g7, 0, none⟩) d.given.length d.given.length, .slice (some ⟨g8, 0, none⟩) d.items.length d.items.length] = z at *))
  exact ret_row rfl rfl E1 Tryd.underlying61 rfl (by kernel_rfl) rfl ⟨[.int .i64 d.broker.width, .slice G0 d.broker.log.entries.length D0, .slice G1 d.broker.receipts.length D1, .slice G2 d.broker.heads.length D2, .int .i64 d.broker.sealed.leaves.size, .slice G3 d.broker.sealed.leaves.peaks.length D3, .int .i64 d.broker.sealed.taken.size, .slice G4 d.broker.sealed.taken.peaks.length D4, .int .i64 d.broker.sealed.head.number, .int .i64 d.broker.sealed.head.size, .string d.broker.sealed.head.root, .int .i64 d.broker.sealed.head.taken, .string d.broker.sealed.head.takenRoot, .slice G5 d.disk.files.length D5, .slice (some ⟨g6, 0, none⟩) d.clients.length d.clients.length, .slice (some ⟨g7, 0, none⟩) d.given.length d.given.length, .slice (some ⟨g8, 0, none⟩) d.items.length d.items.length], rfl, ⟨_, _, _, _, _, _, _, _, _, _, _, _, _, _, _, _, _, _, rfl, T0.mono (fun b hb => by unfold FromB at *; omega), T1.mono (fun b hb => by unfold FromB at *; omega), T2.mono (fun b hb => by unfold FromB at *; omega), T3.mono (fun b hb => by unfold FromB at *; omega), T4.mono (fun b hb => by unfold FromB at *; omega), T5.mono (fun b hb => by unfold FromB at *; omega), SlN.mono ClientD.steady T6 (fun b hb => by unfold FromB at *; omega), T7.mono (fun b hb => by unfold FromB at *; omega), SlN.mono ItemD.steady T8 (fun b hb => by unfold FromB at *; omega)⟩, he_⟩
set_option maxHeartbeats 2000000 in
set_option maxRecDepth 100000 in
theorem eqWorld_same (d : WorldD) (A0 : Option Addr) (c0 : Nat) (A1 : Option Addr) (c1 : Nat) (A2 : Option Addr) (c2 : Nat) (A3 : Option Addr) (c3 : Nat) (A4 : Option Addr) (c4 : Nat) (A5 : Option Addr) (c5 : Nat) (A6 : Option Addr) (c6 : Nat) (A7 : Option Addr) (c7 : Nat) (A8 : Option Addr) (c8 : Nat) (B0 : Option Addr) (e0 : Nat) (B1 : Option Addr) (e1 : Nat) (B2 : Option Addr) (e2 : Nat) (B3 : Option Addr) (e3 : Nat) (B4 : Option Addr) (e4 : Nat) (B5 : Option Addr) (e5 : Nat) (B6 : Option Addr) (e6 : Nat) (B7 : Option Addr) (e7 : Nat) (B8 : Option Addr) (e8 : Nat) (w : World) (s0 : SlF AnyB EntryD.cells 5 w A0 d.broker.log.entries c0) (s1 : SlF AnyB ReceiptD.cells 3 w A1 d.broker.receipts c1) (s2 : SlF AnyB HeadD.cells 5 w A2 d.broker.heads c2) (s3 : SlF AnyB sone 1 w A3 d.broker.sealed.leaves.peaks c3) (s4 : SlF AnyB sone 1 w A4 d.broker.sealed.taken.peaks c4) (s5 : SlF AnyB sone 1 w A5 d.disk.files c5) (s6 : SlN AnyB ClientD.In 8 w A6 d.clients c6) (s7 : SlF AnyB GivenD.cells 7 w A7 d.given c7) (s8 : SlN AnyB ItemD.In 22 w A8 d.items c8) (t0 : SlF AnyB EntryD.cells 5 w B0 d.broker.log.entries e0) (t1 : SlF AnyB ReceiptD.cells 3 w B1 d.broker.receipts e1) (t2 : SlF AnyB HeadD.cells 5 w B2 d.broker.heads e2) (t3 : SlF AnyB sone 1 w B3 d.broker.sealed.leaves.peaks e3) (t4 : SlF AnyB sone 1 w B4 d.broker.sealed.taken.peaks e4) (t5 : SlF AnyB sone 1 w B5 d.disk.files e5) (t6 : SlN AnyB ClientD.In 8 w B6 d.clients e6) (t7 : SlF AnyB GivenD.cells 7 w B7 d.given e7) (t8 : SlN AnyB ItemD.In 22 w B8 d.items e8) (hf : ∀ n ∈ d.lens, n ≤ 1048576) :
    Calls Tryd.prog 8 #[.agg #[.int .i64 d.broker.width, .slice A0 d.broker.log.entries.length c0, .slice A1 d.broker.receipts.length c1, .slice A2 d.broker.heads.length c2, .int .i64 d.broker.sealed.leaves.size, .slice A3 d.broker.sealed.leaves.peaks.length c3, .int .i64 d.broker.sealed.taken.size, .slice A4 d.broker.sealed.taken.peaks.length c4, .int .i64 d.broker.sealed.head.number, .int .i64 d.broker.sealed.head.size, .string d.broker.sealed.head.root, .int .i64 d.broker.sealed.head.taken, .string d.broker.sealed.head.takenRoot, .slice A5 d.disk.files.length c5, .slice A6 d.clients.length c6, .slice A7 d.given.length c7, .slice A8 d.items.length c8], .agg #[.int .i64 d.broker.width, .slice B0 d.broker.log.entries.length e0, .slice B1 d.broker.receipts.length e1, .slice B2 d.broker.heads.length e2, .int .i64 d.broker.sealed.leaves.size, .slice B3 d.broker.sealed.leaves.peaks.length e3, .int .i64 d.broker.sealed.taken.size, .slice B4 d.broker.sealed.taken.peaks.length e4, .int .i64 d.broker.sealed.head.number, .int .i64 d.broker.sealed.head.size, .string d.broker.sealed.head.root, .int .i64 d.broker.sealed.head.taken, .string d.broker.sealed.head.takenRoot, .slice B5 d.disk.files.length e5, .slice B6 d.clients.length e6, .slice B7 d.given.length e7, .slice B8 d.items.length e8]] w fun e w' => e = .returned (.bool true) ∧ Ext w w' := by
  have l_broker : ∀ n ∈ d.broker.lens, n ≤ 1048576 := fun n hn => hf n (by simp only [WorldD.lens, List.mem_append]; simp [hn])
  have l_disk : ∀ n ∈ d.disk.lens, n ≤ 1048576 := fun n hn => hf n (by simp only [WorldD.lens, List.mem_append]; simp [hn])
  have l_clients : d.clients.length ≤ 1048576 := hf _ (by simp [WorldD.lens])
  have L_clients : Hid (∀ x ∈ d.clients, ∀ n ∈ x.lens, n ≤ 1048576) := Lib.hid (fun x hx n hn => hf n (by simp only [WorldD.lens, List.mem_append, List.mem_cons, List.mem_flatMap]; simp only [show (∃ a, a ∈ d.clients ∧ n ∈ a.lens) from ⟨x, hx, hn⟩]; simp))
  have l_given : d.given.length ≤ 1048576 := hf _ (by simp [WorldD.lens])
  have l_items : d.items.length ≤ 1048576 := hf _ (by simp [WorldD.lens])
  have L_items : Hid (∀ x ∈ d.items, ∀ n ∈ x.lens, n ≤ 1048576) := Lib.hid (fun x hx n hn => hf n (by simp only [WorldD.lens, List.mem_append, List.mem_cons, List.mem_flatMap]; simp only [show (∃ a, a ∈ d.items ∧ n ∈ a.lens) from ⟨x, hx, hn⟩]; simp))
  have S0 := Lib.hid s0; have T0 := Lib.hid t0; clear s0 t0
  have S1 := Lib.hid s1; have T1 := Lib.hid t1; clear s1 t1
  have S2 := Lib.hid s2; have T2 := Lib.hid t2; clear s2 t2
  have S3 := Lib.hid s3; have T3 := Lib.hid t3; clear s3 t3
  have S4 := Lib.hid s4; have T4 := Lib.hid t4; clear s4 t4
  have S5 := Lib.hid s5; have T5 := Lib.hid t5; clear s5 t5
  have S6 := Lib.hid s6; have T6 := Lib.hid t6; clear s6 t6
  have S7 := Lib.hid s7; have T7 := Lib.hid t7; clear s7 t7
  have S8 := Lib.hid s8; have T8 := Lib.hid t8; clear s8 t8
  clear hf
  obtain ⟨K0, K1, he⟩ := two_new w #[.int .i64 d.broker.width, .slice A0 d.broker.log.entries.length c0, .slice A1 d.broker.receipts.length c1, .slice A2 d.broker.heads.length c2, .int .i64 d.broker.sealed.leaves.size, .slice A3 d.broker.sealed.leaves.peaks.length c3, .int .i64 d.broker.sealed.taken.size, .slice A4 d.broker.sealed.taken.peaks.length c4, .int .i64 d.broker.sealed.head.number, .int .i64 d.broker.sealed.head.size, .string d.broker.sealed.head.root, .int .i64 d.broker.sealed.head.taken, .string d.broker.sealed.head.takenRoot, .slice A5 d.disk.files.length c5, .slice A6 d.clients.length c6, .slice A7 d.given.length c7, .slice A8 d.items.length c8] #[.int .i64 d.broker.width, .slice B0 d.broker.log.entries.length e0, .slice B1 d.broker.receipts.length e1, .slice B2 d.broker.heads.length e2, .int .i64 d.broker.sealed.leaves.size, .slice B3 d.broker.sealed.leaves.peaks.length e3, .int .i64 d.broker.sealed.taken.size, .slice B4 d.broker.sealed.taken.peaks.length e4, .int .i64 d.broker.sealed.head.number, .int .i64 d.broker.sealed.head.size, .string d.broker.sealed.head.root, .int .i64 d.broker.sealed.head.taken, .string d.broker.sealed.head.takenRoot, .slice B5 d.disk.files.length e5, .slice B6 d.clients.length e6, .slice B7 d.given.length e7, .slice B8 d.items.length e8] 61 61
  go_enter Tryd.func8, Tryd.ntmps8
  obtain ⟨r0, f0⟩ := K0.rules
  obtain ⟨r1, f1⟩ := K1.rules
  go_wp2_with fail
  obtain ⟨g, hg⟩ : ∃ g, g = w.heap.size := ⟨_, rfl⟩
  rw [← hg] at K0 K1
  rw [← hg]
  clear hg r0 f0 r1 f1
  refine (eqBroker_same d.broker A0 c0 A1 c1 A2 c2 A3 c3 A4 c4 B0 e0 B1 e1 B2 e2 B3 e3 B4 e4 _ (S0.out.ext he) (S1.out.ext he) (S2.out.ext he) (S3.out.ext he) (S4.out.ext he) (T0.out.ext he) (T1.out.ext he) (T2.out.ext he) (T3.out.ext he) (T4.out.ext he) l_broker).mono ?_
  rintro e x0 ⟨rfl, hx⟩
  replace K0 := K0.ext hx; replace K1 := K1.ext hx; replace he := he.next hx; clear hx
  obtain ⟨r0, f0⟩ := K0.rules
  obtain ⟨r1, f1⟩ := K1.rules
  go_wp2_with fail
  clear r0 f0 r1 f1
  refine (eqDisk_same d.disk A5 c5 B5 e5 _ (S5.out.ext he) (T5.out.ext he) l_disk).mono ?_
  rintro e x1 ⟨rfl, hx⟩
  replace K0 := K0.ext hx; replace K1 := K1.ext hx; replace he := he.next hx; clear hx
  obtain ⟨r0, f0⟩ := K0.rules
  obtain ⟨r1, f1⟩ := K1.rules
  go_wp2_with fail
  clear r0 f0 r1 f1
  refine (eqClientS_same A6 B6 c6 e6 d.clients _ (SlN.ext ClientD.steady S6.out he) (SlN.ext ClientD.steady T6.out he) l_clients L_clients.out).mono ?_
  rintro e x2 ⟨rfl, hx⟩
  replace K0 := K0.ext hx; replace K1 := K1.ext hx; replace he := he.next hx; clear hx
  obtain ⟨r0, f0⟩ := K0.rules
  obtain ⟨r1, f1⟩ := K1.rules
  go_wp2_with fail
  clear r0 f0 r1 f1
  refine (eqGivenS_same A7 B7 c7 e7 d.given _ (S7.out.ext he).reads (T7.out.ext he).reads l_given).mono ?_
  rintro e x3 ⟨rfl, hx⟩
  replace K0 := K0.ext hx; replace K1 := K1.ext hx; replace he := he.next hx; clear hx
  obtain ⟨r0, f0⟩ := K0.rules
  obtain ⟨r1, f1⟩ := K1.rules
  go_wp2_with fail
  clear r0 f0 r1 f1
  refine (eqItemS_same A8 B8 c8 e8 d.items _ (SlN.ext ItemD.steady S8.out he) (SlN.ext ItemD.steady T8.out he) l_items L_items.out).mono ?_
  rintro e x4 ⟨rfl, hx⟩
  replace K0 := K0.ext hx; replace K1 := K1.ext hx; replace he := he.next hx; clear hx
  obtain ⟨r0, f0⟩ := K0.rules
  obtain ⟨r1, f1⟩ := K1.rules
  go_wp2_with fail
  clear r0 f0 r1 f1
  go_ret
  exact ⟨rfl, he⟩
end Go.Proofs.YtichegndafnjeaaDoor
