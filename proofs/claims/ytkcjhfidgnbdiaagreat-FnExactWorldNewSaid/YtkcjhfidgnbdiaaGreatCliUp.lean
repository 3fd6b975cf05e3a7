/-
  What World is in memory; the laws' own functions at it: walks. Written by program (gen_nest.py). No condition.
  Clients without cursors as clients. No condition.
-/
import Derived.Test.YtkcjhfidgnbdiaaGreatNest
import Derived.Test.YtkcjhfidgnbdiaaGreatNBroker
import Derived.Test.YtkcjhfidgnbdiaaGreatConvGiven
import Derived.Test.YtkcjhfidgnbdiaaGreatNItem
import Derived.Test.YtkcjhfidgnbdiaaGreatNamesOk
import Derived.StillTailTactics
import Derived.Test.YtkcjhfidgnbdiaaGreatAppSrc
import Derived.Test.YtkcjhfidgnbdiaaGreatMarkBase
namespace Go.Proofs.YtkcjhfidgnbdiaaGreat
set_option linter.unusedSimpArgs false
open Go.RowKit
set_option linter.unusedVariables false

structure WorldD where
  broker : BrokerD
  disk : DiskD
  clients : List ClientD
  given : List GivenD
  items : List ItemD
def WorldD.In : Rep WorldD := fun p w cs d => ∃ (A0 : Option Addr) (c0 : Nat) (A1 : Option Addr) (c1 : Nat) (A2 : Option Addr) (c2 : Nat) (A3 : Option Addr) (c3 : Nat) (A4 : Option Addr) (c4 : Nat) (A5 : Option Addr) (c5 : Nat) (A6 : Option Addr) (c6 : Nat) (A7 : Option Addr) (c7 : Nat) (A8 : Option Addr) (c8 : Nat), cs = [.int .i64 d.broker.width, .slice A0 d.broker.log.entries.length c0, .slice A1 d.broker.receipts.length c1, .slice A2 d.broker.heads.length c2, .int .i64 d.broker.sealed.leaves.size, .slice A3 d.broker.sealed.leaves.peaks.length c3, .int .i64 d.broker.sealed.taken.size, .slice A4 d.broker.sealed.taken.peaks.length c4, .int .i64 d.broker.sealed.head.number, .int .i64 d.broker.sealed.head.size, .string d.broker.sealed.head.root, .int .i64 d.broker.sealed.head.taken, .string d.broker.sealed.head.takenRoot, .slice A5 d.disk.files.length c5, .slice A6 d.clients.length c6, .slice A7 d.given.length c7, .slice A8 d.items.length c8] ∧ SlF p EntryD.cells 5 w A0 d.broker.log.entries c0 ∧ SlF p ReceiptD.cells 3 w A1 d.broker.receipts c1 ∧ SlF p HeadD.cells 5 w A2 d.broker.heads c2 ∧ SlF p sone 1 w A3 d.broker.sealed.leaves.peaks c3 ∧ SlF p sone 1 w A4 d.broker.sealed.taken.peaks c4 ∧ SlF p sone 1 w A5 d.disk.files c5 ∧ SlN p ClientD.In 8 w A6 d.clients c6 ∧ SlF p GivenD.cells 7 w A7 d.given c7 ∧ SlN p ItemD.In 22 w A8 d.items c8
theorem WorldD.steady : Steady WorldD.In := ⟨fun h k => by obtain ⟨A0, c0, A1, c1, A2, c2, A3, c3, A4, c4, A5, c5, A6, c6, A7, c7, A8, c8, rfl, s0, s1, s2, s3, s4, s5, s6, s7, s8⟩ := h; exact ⟨_, _, _, _, _, _, _, _, _, _, _, _, _, _, _, _, _, _, rfl, s0.keep k, s1.keep k, s2.keep k, s3.keep k, s4.keep k, s5.keep k, SlN.keep ClientD.steady s6 k, s7.keep k, SlN.keep ItemD.steady s8 k⟩, fun h k => by obtain ⟨A0, c0, A1, c1, A2, c2, A3, c3, A4, c4, A5, c5, A6, c6, A7, c7, A8, c8, rfl, s0, s1, s2, s3, s4, s5, s6, s7, s8⟩ := h; exact ⟨_, _, _, _, _, _, _, _, _, _, _, _, _, _, _, _, _, _, rfl, s0.mono k, s1.mono k, s2.mono k, s3.mono k, s4.mono k, s5.mono k, SlN.mono ClientD.steady s6 k, s7.mono k, SlN.mono ItemD.steady s8 k⟩⟩
theorem WorldD.in_len {p : Nat → Prop} {w : World} {cs : List Value} {d : WorldD} (h : WorldD.In p w cs d) : cs.length = 17 := by obtain ⟨A0, c0, A1, c1, A2, c2, A3, c3, A4, c4, A5, c5, A6, c6, A7, c7, A8, c8, rfl, _⟩ := h; rfl
def WorldD.Ok (d : WorldD) : Prop := d.broker.Ok ∧ d.disk.Ok ∧ (∀ x ∈ d.clients, x.Ok) ∧ (∀ x ∈ d.given, x.Ok) ∧ (∀ x ∈ d.items, x.Ok)
def WorldD.lens (d : WorldD) : List Nat := d.broker.lens ++ (d.disk.lens ++ ((d.clients.length :: d.clients.flatMap ClientD.lens) ++ ((d.given.length :: d.given.flatMap GivenD.lens) ++ ((d.items.length :: d.items.flatMap ItemD.lens) ++ []))))
set_option maxHeartbeats 2000000 in
set_option maxRecDepth 100000 in
theorem eqWorld_same (d : WorldD) (A0 : Option Addr) (c0 : Nat) (A1 : Option Addr) (c1 : Nat) (A2 : Option Addr) (c2 : Nat) (A3 : Option Addr) (c3 : Nat) (A4 : Option Addr) (c4 : Nat) (A5 : Option Addr) (c5 : Nat) (A6 : Option Addr) (c6 : Nat) (A7 : Option Addr) (c7 : Nat) (A8 : Option Addr) (c8 : Nat) (B0 : Option Addr) (e0 : Nat) (B1 : Option Addr) (e1 : Nat) (B2 : Option Addr) (e2 : Nat) (B3 : Option Addr) (e3 : Nat) (B4 : Option Addr) (e4 : Nat) (B5 : Option Addr) (e5 : Nat) (B6 : Option Addr) (e6 : Nat) (B7 : Option Addr) (e7 : Nat) (B8 : Option Addr) (e8 : Nat) (w : World) (s0 : SlF AnyB EntryD.cells 5 w A0 d.broker.log.entries c0) (s1 : SlF AnyB ReceiptD.cells 3 w A1 d.broker.receipts c1) (s2 : SlF AnyB HeadD.cells 5 w A2 d.broker.heads c2) (s3 : SlF AnyB sone 1 w A3 d.broker.sealed.leaves.peaks c3) (s4 : SlF AnyB sone 1 w A4 d.broker.sealed.taken.peaks c4) (s5 : SlF AnyB sone 1 w A5 d.disk.files c5) (s6 : SlN AnyB ClientD.In 8 w A6 d.clients c6) (s7 : SlF AnyB GivenD.cells 7 w A7 d.given c7) (s8 : SlN AnyB ItemD.In 22 w A8 d.items c8) (t0 : SlF AnyB EntryD.cells 5 w B0 d.broker.log.entries e0) (t1 : SlF AnyB ReceiptD.cells 3 w B1 d.broker.receipts e1) (t2 : SlF AnyB HeadD.cells 5 w B2 d.broker.heads e2) (t3 : SlF AnyB sone 1 w B3 d.broker.sealed.leaves.peaks e3) (t4 : SlF AnyB sone 1 w B4 d.broker.sealed.taken.peaks e4) (t5 : SlF AnyB sone 1 w B5 d.disk.files e5) (t6 : SlN AnyB ClientD.In 8 w B6 d.clients e6) (t7 : SlF AnyB GivenD.cells 7 w B7 d.given e7) (t8 : SlN AnyB ItemD.In 22 w B8 d.items e8) (hf : ∀ n ∈ d.lens, n ≤ 1048576) :
    Calls Tryz.prog 38 #[.agg #[.int .i64 d.broker.width, .slice A0 d.broker.log.entries.length c0, .slice A1 d.broker.receipts.length c1, .slice A2 d.broker.heads.length c2, .int .i64 d.broker.sealed.leaves.size, .slice A3 d.broker.sealed.leaves.peaks.length c3, .int .i64 d.broker.sealed.taken.size, .slice A4 d.broker.sealed.taken.peaks.length c4, .int .i64 d.broker.sealed.head.number, .int .i64 d.broker.sealed.head.size, .string d.broker.sealed.head.root, .int .i64 d.broker.sealed.head.taken, .string d.broker.sealed.head.takenRoot, .slice A5 d.disk.files.length c5, .slice A6 d.clients.length c6, .slice A7 d.given.length c7, .slice A8 d.items.length c8], .agg #[.int .i64 d.broker.width, .slice B0 d.broker.log.entries.length e0, .slice B1 d.broker.receipts.length e1, .slice B2 d.broker.heads.length e2, .int .i64 d.broker.sealed.leaves.size, .slice B3 d.broker.sealed.leaves.peaks.length e3, .int .i64 d.broker.sealed.taken.size, .slice B4 d.broker.sealed.taken.peaks.length e4, .int .i64 d.broker.sealed.head.number, .int .i64 d.broker.sealed.head.size, .string d.broker.sealed.head.root, .int .i64 d.broker.sealed.head.taken, .string d.broker.sealed.head.takenRoot, .slice B5 d.disk.files.length e5, .slice B6 d.clients.length e6, .slice B7 d.given.length e7, .slice B8 d.items.length e8]] w fun e w' => e = .returned (.bool true) ∧ Ext w w' := by
  have l_broker : ∀ n ∈ d.broker.lens, n ≤ 1048576 := fun n hn => hf n (by simp only [WorldD.lens, List.mem_append]; simp [hn])
  have l_disk : ∀ n ∈ d.disk.lens, n ≤ 1048576 := fun n hn => hf n (by simp only [WorldD.lens, List.mem_append]; simp [hn])
  have l_clients : d.clients.length ≤ 1048576 := hf _ (by simp [WorldD.lens])
  have L_clients : Hid (∀ x ∈ d.clients, ∀ n ∈ x.lens, n ≤ 1048576) := Lib.hid (fun x hx n hn => hf n (by simp only [WorldD.lens, List.mem_append, List.mem_cons, List.mem_flatMap]; simp only [show (∃ a, a ∈ d.clients ∧ n ∈ a.lens) from ⟨x, hx, hn⟩]; simp))
  have l_given : d.given.length ≤ 1048576 := hf _ (by simp [WorldD.lens])
  have l_items : d.items.length ≤ 1048576 := hf _ (by simp [WorldD.lens])
  have L_items : Hid (∀ x ∈ d.items, ∀ n ∈ x.lens, n ≤ 1048576) := Lib.hid (fun x hx n hn => hf n (by simp only [WorldD.lens, List.mem_append, List.mem_cons, List.mem_flatMap]; simp only [show (∃ a, a ∈ d.items ∧ n ∈ a.lens) from ⟨x, hx, hn⟩]; simp))
  have S0 := Lib.hid s0; have T0 := Lib.hid t0; clear s0 t0
  have S1 := Lib.hid s1; have T1 := Lib.hid t1; clear s1 t1
  have S2 := Lib.hid s2; have T2 := Lib.hid t2; clear s2 t2
  have S3 := Lib.hid s3; have T3 := Lib.hid t3; clear s3 t3
  have S4 := Lib.hid s4; have T4 := Lib.hid t4; clear s4 t4
  have S5 := Lib.hid s5; have T5 := Lib.hid t5; clear s5 t5
  have S6 := Lib.hid s6; have T6 := Lib.hid t6; clear s6 t6
  have S7 := Lib.hid s7; have T7 := Lib.hid t7; clear s7 t7
  have S8 := Lib.hid s8; have T8 := Lib.hid t8; clear s8 t8
  clear hf
  obtain ⟨K0, K1, he⟩ := two_new w #[.int .i64 d.broker.width, .slice A0 d.broker.log.entries.length c0, .slice A1 d.broker.receipts.length c1, .slice A2 d.broker.heads.length c2, .int .i64 d.broker.sealed.leaves.size, .slice A3 d.broker.sealed.leaves.peaks.length c3, .int .i64 d.broker.sealed.taken.size, .slice A4 d.broker.sealed.taken.peaks.length c4, .int .i64 d.broker.sealed.head.number, .int .i64 d.broker.sealed.head.size, .string d.broker.sealed.head.root, .int .i64 d.broker.sealed.head.taken, .string d.broker.sealed.head.takenRoot, .slice A5 d.disk.files.length c5, .slice A6 d.clients.length c6, .slice A7 d.given.length c7, .slice A8 d.items.length c8] #[.int .i64 d.broker.width, .slice B0 d.broker.log.entries.length e0, .slice B1 d.broker.receipts.length e1, .slice B2 d.broker.heads.length e2, .int .i64 d.broker.sealed.leaves.size, .slice B3 d.broker.sealed.leaves.peaks.length e3, .int .i64 d.broker.sealed.taken.size, .slice B4 d.broker.sealed.taken.peaks.length e4, .int .i64 d.broker.sealed.head.number, .int .i64 d.broker.sealed.head.size, .string d.broker.sealed.head.root, .int .i64 d.broker.sealed.head.taken, .string d.broker.sealed.head.takenRoot, .slice B5 d.disk.files.length e5, .slice B6 d.clients.length e6, .slice B7 d.given.length e7, .slice B8 d.items.length e8] 80 80
  go_enter Tryz.func38, Tryz.ntmps38
  obtain ⟨r0, f0⟩ := K0.rules
  obtain ⟨r1, f1⟩ := K1.rules
  go_wp2_with fail
  obtain ⟨g, hg⟩ : ∃ g, g = w.heap.size := ⟨_, rfl⟩
  rw [← hg] at K0 K1
  rw [← hg]
  clear hg r0 f0 r1 f1
  refine (eqBroker_same d.broker A0 c0 A1 c1 A2 c2 A3 c3 A4 c4 B0 e0 B1 e1 B2 e2 B3 e3 B4 e4 _ (S0.out.ext he) (S1.out.ext he) (S2.out.ext he) (S3.out.ext he) (S4.out.ext he) (T0.out.ext he) (T1.out.ext he) (T2.out.ext he) (T3.out.ext he) (T4.out.ext he) l_broker).mono ?_
  rintro e x0 ⟨rfl, hx⟩
  replace K0 := K0.ext hx; replace K1 := K1.ext hx; replace he := he.next hx; clear hx
  obtain ⟨r0, f0⟩ := K0.rules
  obtain ⟨r1, f1⟩ := K1.rules
  go_wp2_with fail
  clear r0 f0 r1 f1
  refine (eqDisk_same d.disk A5 c5 B5 e5 _ (S5.out.ext he) (T5.out.ext he) l_disk).mono ?_
  rintro e x1 ⟨rfl, hx⟩
  replace K0 := K0.ext hx; replace K1 := K1.ext hx; replace he := he.next hx; clear hx
  obtain ⟨r0, f0⟩ := K0.rules
  obtain ⟨r1, f1⟩ := K1.rules
  go_wp2_with fail
  clear r0 f0 r1 f1
  refine (eqClientS_same A6 B6 c6 e6 d.clients _ (SlN.ext ClientD.steady S6.out he) (SlN.ext ClientD.steady T6.out he) l_clients L_clients.out).mono ?_
  rintro e x2 ⟨rfl, hx⟩
  replace K0 := K0.ext hx; replace K1 := K1.ext hx; replace he := he.next hx; clear hx
  obtain ⟨r0, f0⟩ := K0.rules
  obtain ⟨r1, f1⟩ := K1.rules
  go_wp2_with fail
  clear r0 f0 r1 f1
  refine (eqGivenS_same A7 B7 c7 e7 d.given _ (S7.out.ext he).reads (T7.out.ext he).reads l_given).mono ?_
  rintro e x3 ⟨rfl, hx⟩
  replace K0 := K0.ext hx; replace K1 := K1.ext hx; replace he := he.next hx; clear hx
  obtain ⟨r0, f0⟩ := K0.rules
  obtain ⟨r1, f1⟩ := K1.rules
  go_wp2_with fail
  clear r0 f0 r1 f1
  refine (eqItemS_same A8 B8 c8 e8 d.items _ (SlN.ext ItemD.steady S8.out he) (SlN.ext ItemD.steady T8.out he) l_items L_items.out).mono ?_
  rintro e x4 ⟨rfl, hx⟩
  replace K0 := K0.ext hx; replace K1 := K1.ext hx; replace he := he.next hx; clear hx
  obtain ⟨r0, f0⟩ := K0.rules
  obtain ⟨r1, f1⟩ := K1.rules
  go_wp2_with fail
  clear r0 f0 r1 f1
  go_ret
  exact ⟨rfl, he⟩
end Go.Proofs.YtkcjhfidgnbdiaaGreat
namespace Go.Proofs.YtkcjhfidgnbdiaaGreat
set_option linter.unusedSimpArgs false
open Go.RowKit
set_option linter.unusedVariables false

theorem svals_flat : ∀ l : List ByteArray, svals l = l.flatMap sone
  | [] => rfl
  | a :: l => by simp [svals, sone, ← svals_flat l]
def CliZ.up (d : CliZ) : ClientD := ⟨d.width, d.name, d.head, []⟩
theorem slN_cli {p : Nat → Prop} {w : World} {A : Option Addr} {c : Nat} {l : List CliZ} (h : SlF p CliZ.cells 8 w A l c) : SlN p ClientD.In 8 w A (l.map CliZ.up) c := by
  refine ⟨by simpa using h.le, h.cap, ⟨l.map CliZ.cells, by simp, ?_, ?_, ?_⟩, fun hn => h.low (by simpa using hn)⟩
  · intro cs hcs
    obtain ⟨x, _, rfl⟩ := List.mem_map.1 hcs
    rfl
  · intro i cs a hcs ha
    rw [List.getElem?_map] at hcs ha
    obtain ⟨x, hx, rfl⟩ := Option.map_eq_some_iff.1 hcs
    rw [hx] at ha
    obtain rfl : x.up = a := by simpa using ha
    exact ⟨none, 0, rfl, SlF.nil _ _ _ _⟩
  · have := h.reads
    unfold ReadsL at this ⊢
    rw [List.length_map, List.flatMap_map]
    exact this
end Go.Proofs.YtkcjhfidgnbdiaaGreat
