/-
  What Dark is in memory; the laws' own functions at it: walks. Written by program (gen_nest.py). No condition.
-/
import Derived.Test.YtkcjhfidgnbdiaaNest
import Derived.Test.YtkcjhfidgnbdiaaNClient
import Derived.Test.YtkcjhfidgnbdiaaNScanner
import Derived.Test.YtkcjhfidgnbdiaaConvReceipt
import Derived.Test.YtkcjhfidgnbdiaaNItem
import Derived.Test.YtkcjhfidgnbdiaaConvMeeting
import Derived.StillTailTactics
namespace Go.Proofs.Ytkcjhfidgnbdiaa
set_option linter.unusedSimpArgs false
open Go.RowKit
set_option linter.unusedVariables false

structure DarkD where
  clients : List ClientD
  scanners : List ScannerD
  given : List GivenD
  scanned : List GivenD
  items : List ItemD
  met : List MeetingD
def DarkD.In : Rep DarkD := fun p w cs d => ∃ (A0 : Option Addr) (c0 : Nat) (A1 : Option Addr) (c1 : Nat) (A2 : Option Addr) (c2 : Nat) (A3 : Option Addr) (c3 : Nat) (A4 : Option Addr) (c4 : Nat) (A5 : Option Addr) (c5 : Nat), cs = [.slice A0 d.clients.length c0, .slice A1 d.scanners.length c1, .slice A2 d.given.length c2, .slice A3 d.scanned.length c3, .slice A4 d.items.length c4, .slice A5 d.met.length c5] ∧ SlN p ClientD.In 8 w A0 d.clients c0 ∧ SlN p ScannerD.In 10 w A1 d.scanners c1 ∧ SlF p GivenD.cells 7 w A2 d.given c2 ∧ SlF p GivenD.cells 7 w A3 d.scanned c3 ∧ SlN p ItemD.In 22 w A4 d.items c4 ∧ SlF p MeetingD.cells 4 w A5 d.met c5
theorem DarkD.steady : Steady DarkD.In := ⟨fun h k => by obtain ⟨A0, c0, A1, c1, A2, c2, A3, c3, A4, c4, A5, c5, rfl, s0, s1, s2, s3, s4, s5⟩ := h; exact ⟨_, _, _, _, _, _, _, _, _, _, _, _, rfl, SlN.keep ClientD.steady s0 k, SlN.keep ScannerD.steady s1 k, s2.keep k, s3.keep k, SlN.keep ItemD.steady s4 k, s5.keep k⟩, fun h k => by obtain ⟨A0, c0, A1, c1, A2, c2, A3, c3, A4, c4, A5, c5, rfl, s0, s1, s2, s3, s4, s5⟩ := h; exact ⟨_, _, _, _, _, _, _, _, _, _, _, _, rfl, SlN.mono ClientD.steady s0 k, SlN.mono ScannerD.steady s1 k, s2.mono k, s3.mono k, SlN.mono ItemD.steady s4 k, s5.mono k⟩⟩
theorem DarkD.in_len {p : Nat → Prop} {w : World} {cs : List Value} {d : DarkD} (h : DarkD.In p w cs d) : cs.length = 6 := by obtain ⟨A0, c0, A1, c1, A2, c2, A3, c3, A4, c4, A5, c5, rfl, _⟩ := h; rfl
def DarkD.Ok (d : DarkD) : Prop := (∀ x ∈ d.clients, x.Ok) ∧ (∀ x ∈ d.scanners, x.Ok) ∧ (∀ x ∈ d.given, x.Ok) ∧ (∀ x ∈ d.scanned, x.Ok) ∧ (∀ x ∈ d.items, x.Ok) ∧ (∀ x ∈ d.met, x.Ok)
def DarkD.lens (d : DarkD) : List Nat := (d.clients.length :: d.clients.flatMap ClientD.lens) ++ ((d.scanners.length :: d.scanners.flatMap ScannerD.lens) ++ ((d.given.length :: d.given.flatMap GivenD.lens) ++ ((d.scanned.length :: d.scanned.flatMap GivenD.lens) ++ ((d.items.length :: d.items.flatMap ItemD.lens) ++ ([d.met.length] ++ [])))))
set_option maxHeartbeats 2000000 in
set_option maxRecDepth 100000 in
theorem eqDark_same (d : DarkD) (A0 : Option Addr) (c0 : Nat) (A1 : Option Addr) (c1 : Nat) (A2 : Option Addr) (c2 : Nat) (A3 : Option Addr) (c3 : Nat) (A4 : Option Addr) (c4 : Nat) (A5 : Option Addr) (c5 : Nat) (B0 : Option Addr) (e0 : Nat) (B1 : Option Addr) (e1 : Nat) (B2 : Option Addr) (e2 : Nat) (B3 : Option Addr) (e3 : Nat) (B4 : Option Addr) (e4 : Nat) (B5 : Option Addr) (e5 : Nat) (w : World) (s0 : SlN AnyB ClientD.In 8 w A0 d.clients c0) (s1 : SlN AnyB ScannerD.In 10 w A1 d.scanners c1) (s2 : SlF AnyB GivenD.cells 7 w A2 d.given c2) (s3 : SlF AnyB GivenD.cells 7 w A3 d.scanned c3) (s4 : SlN AnyB ItemD.In 22 w A4 d.items c4) (s5 : SlF AnyB MeetingD.cells 4 w A5 d.met c5) (t0 : SlN AnyB ClientD.In 8 w B0 d.clients e0) (t1 : SlN AnyB ScannerD.In 10 w B1 d.scanners e1) (t2 : SlF AnyB GivenD.cells 7 w B2 d.given e2) (t3 : SlF AnyB GivenD.cells 7 w B3 d.scanned e3) (t4 : SlN AnyB ItemD.In 22 w B4 d.items e4) (t5 : SlF AnyB MeetingD.cells 4 w B5 d.met e5) (hf : ∀ n ∈ d.lens, n ≤ 1048576) :
    Calls Try.prog 20 #[.agg #[.slice A0 d.clients.length c0, .slice A1 d.scanners.length c1, .slice A2 d.given.length c2, .slice A3 d.scanned.length c3, .slice A4 d.items.length c4, .slice A5 d.met.length c5], .agg #[.slice B0 d.clients.length e0, .slice B1 d.scanners.length e1, .slice B2 d.given.length e2, .slice B3 d.scanned.length e3, .slice B4 d.items.length e4, .slice B5 d.met.length e5]] w fun e w' => e = .returned (.bool true) ∧ Ext w w' := by
  have l_clients : d.clients.length ≤ 1048576 := hf _ (by simp [DarkD.lens])
  have L_clients : Hid (∀ x ∈ d.clients, ∀ n ∈ x.lens, n ≤ 1048576) := Lib.hid (fun x hx n hn => hf n (by simp only [DarkD.lens, List.mem_append, List.mem_cons, List.mem_flatMap]; simp only [show (∃ a, a ∈ d.clients ∧ n ∈ a.lens) from ⟨x, hx, hn⟩]; simp))
  have l_scanners : d.scanners.length ≤ 1048576 := hf _ (by simp [DarkD.lens])
  have L_scanners : Hid (∀ x ∈ d.scanners, ∀ n ∈ x.lens, n ≤ 1048576) := Lib.hid (fun x hx n hn => hf n (by simp only [DarkD.lens, List.mem_append, List.mem_cons, List.mem_flatMap]; simp only [show (∃ a, a ∈ d.scanners ∧ n ∈ a.lens) from ⟨x, hx, hn⟩]; simp))
  have l_given : d.given.length ≤ 1048576 := hf _ (by simp [DarkD.lens])
  have l_scanned : d.scanned.length ≤ 1048576 := hf _ (by simp [DarkD.lens])
  have l_items : d.items.length ≤ 1048576 := hf _ (by simp [DarkD.lens])
  have L_items : Hid (∀ x ∈ d.items, ∀ n ∈ x.lens, n ≤ 1048576) := Lib.hid (fun x hx n hn => hf n (by simp only [DarkD.lens, List.mem_append, List.mem_cons, List.mem_flatMap]; simp only [show (∃ a, a ∈ d.items ∧ n ∈ a.lens) from ⟨x, hx, hn⟩]; simp))
  have l_met : d.met.length ≤ 1048576 := hf _ (by simp [DarkD.lens])
  have S0 := Lib.hid s0; have T0 := Lib.hid t0; clear s0 t0
  have S1 := Lib.hid s1; have T1 := Lib.hid t1; clear s1 t1
  have S2 := Lib.hid s2; have T2 := Lib.hid t2; clear s2 t2
  have S3 := Lib.hid s3; have T3 := Lib.hid t3; clear s3 t3
  have S4 := Lib.hid s4; have T4 := Lib.hid t4; clear s4 t4
  have S5 := Lib.hid s5; have T5 := Lib.hid t5; clear s5 t5
  clear hf
  obtain ⟨K0, K1, he⟩ := two_new w #[.slice A0 d.clients.length c0, .slice A1 d.scanners.length c1, .slice A2 d.given.length c2, .slice A3 d.scanned.length c3, .slice A4 d.items.length c4, .slice A5 d.met.length c5] #[.slice B0 d.clients.length e0, .slice B1 d.scanners.length e1, .slice B2 d.given.length e2, .slice B3 d.scanned.length e3, .slice B4 d.items.length e4, .slice B5 d.met.length e5] 50 50
  go_enter Try.func20, Try.ntmps20
  obtain ⟨r0, f0⟩ := K0.rules
  obtain ⟨r1, f1⟩ := K1.rules
  go_wp2_with fail
  obtain ⟨g, hg⟩ : ∃ g, g = w.heap.size := ⟨_, rfl⟩
  rw [← hg] at K0 K1
  rw [← hg]
  clear hg r0 f0 r1 f1
  refine (eqClientS_same A0 B0 c0 e0 d.clients _ (SlN.ext ClientD.steady S0.out he) (SlN.ext ClientD.steady T0.out he) l_clients L_clients.out).mono ?_
  rintro e x0 ⟨rfl, hx⟩
  replace K0 := K0.ext hx; replace K1 := K1.ext hx; replace he := he.next hx; clear hx
  obtain ⟨r0, f0⟩ := K0.rules
  obtain ⟨r1, f1⟩ := K1.rules
  go_wp2_with fail
  clear r0 f0 r1 f1
  refine (eqScannerS_same A1 B1 c1 e1 d.scanners _ (SlN.ext ScannerD.steady S1.out he) (SlN.ext ScannerD.steady T1.out he) l_scanners L_scanners.out).mono ?_
  rintro e x1 ⟨rfl, hx⟩
  replace K0 := K0.ext hx; replace K1 := K1.ext hx; replace he := he.next hx; clear hx
  obtain ⟨r0, f0⟩ := K0.rules
  obtain ⟨r1, f1⟩ := K1.rules
  go_wp2_with fail
  clear r0 f0 r1 f1
  refine (eqGivenS_same A2 B2 c2 e2 d.given _ (S2.out.ext he).reads (T2.out.ext he).reads l_given).mono ?_
  rintro e x2 ⟨rfl, hx⟩
  replace K0 := K0.ext hx; replace K1 := K1.ext hx; replace he := he.next hx; clear hx
  obtain ⟨r0, f0⟩ := K0.rules
  obtain ⟨r1, f1⟩ := K1.rules
  go_wp2_with fail
  clear r0 f0 r1 f1
  refine (eqGivenS_same A3 B3 c3 e3 d.scanned _ (S3.out.ext he).reads (T3.out.ext he).reads l_scanned).mono ?_
  rintro e x3 ⟨rfl, hx⟩
  replace K0 := K0.ext hx; replace K1 := K1.ext hx; replace he := he.next hx; clear hx
  obtain ⟨r0, f0⟩ := K0.rules
  obtain ⟨r1, f1⟩ := K1.rules
  go_wp2_with fail
  clear r0 f0 r1 f1
  refine (eqItemS_same A4 B4 c4 e4 d.items _ (SlN.ext ItemD.steady S4.out he) (SlN.ext ItemD.steady T4.out he) l_items L_items.out).mono ?_
  rintro e x4 ⟨rfl, hx⟩
  replace K0 := K0.ext hx; replace K1 := K1.ext hx; replace he := he.next hx; clear hx
  obtain ⟨r0, f0⟩ := K0.rules
  obtain ⟨r1, f1⟩ := K1.rules
  go_wp2_with fail
  clear r0 f0 r1 f1
  refine (eqMeetingS_same A5 B5 c5 e5 d.met _ (S5.out.ext he).reads (T5.out.ext he).reads l_met).mono ?_
  rintro e x5 ⟨rfl, hx⟩
  replace K0 := K0.ext hx; replace K1 := K1.ext hx; replace he := he.next hx; clear hx
  obtain ⟨r0, f0⟩ := K0.rules
  obtain ⟨r1, f1⟩ := K1.rules
  go_wp2_with fail
  clear r0 f0 r1 f1
  go_ret
  exact ⟨rfl, he⟩
end Go.Proofs.Ytkcjhfidgnbdiaa
