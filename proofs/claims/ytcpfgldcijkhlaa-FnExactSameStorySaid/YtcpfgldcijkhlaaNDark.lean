/-
  What Dark is in memory; the laws' own functions at it: walks. Written by program (gen_nest.py). No condition.
-/
import Derived.Test.YtcpfgldcijkhlaaNest
import Derived.Test.YtcpfgldcijkhlaaNClient
import Derived.Test.YtcpfgldcijkhlaaNScanner
import Derived.Test.YtcpfgldcijkhlaaConvGiven
import Derived.Test.YtcpfgldcijkhlaaNItem
import Derived.Test.YtcpfgldcijkhlaaConvMeeting
import Derived.StillTailTactics
namespace Go.Proofs.Ytcpfgldcijkhlaa
open Go.RowKit
set_option linter.unusedVariables false

structure DarkD where
  clients : List ClientD
  scanners : List ScannerD
  given : List GivenD
  scanned : List GivenD
  items : List ItemD
  met : List MeetingD
def DarkD.In : Rep DarkD := fun p w cs d => ∃ (A0 : Option Addr) (c0 : Nat) (A1 : Option Addr) (c1 : Nat) (A2 : Option Addr) (c2 : Nat) (A3 : Option Addr) (c3 : Nat) (A4 : Option Addr) (c4 : Nat) (A5 : Option Addr) (c5 : Nat), cs = [.slice A0 d.clients.length c0, .slice A1 d.scanners.length c1, .slice A2 d.given.length c2, .slice A3 d.scanned.length c3, .slice A4 d.items.length c4, .slice A5 d.met.length c5] ∧ SlN p ClientD.In 8 w A0 d.clients c0 ∧ SlN p ScannerD.In 10 w A1 d.scanners c1 ∧ SlF p GivenD.cells 7 w A2 d.given c2 ∧ SlF p GivenD.cells 7 w A3 d.scanned c3 ∧ SlN p ItemD.In 22 w A4 d.items c4 ∧ SlF p MeetingD.cells 4 w A5 d.met c5
theorem DarkD.steady : Steady DarkD.In := ⟨fun h k => by obtain ⟨A0, c0, A1, c1, A2, c2, A3, c3, A4, c4, A5, c5, rfl, s0, s1, s2, s3, s4, s5⟩ := h; exact ⟨_, _, _, _, _, _, _, _, _, _, _, _, rfl, SlN.keep ClientD.steady s0 k, SlN.keep ScannerD.steady s1 k, s2.keep k, s3.keep k, SlN.keep ItemD.steady s4 k, s5.keep k⟩, fun h k => by obtain ⟨A0, c0, A1, c1, A2, c2, A3, c3, A4, c4, A5, c5, rfl, s0, s1, s2, s3, s4, s5⟩ := h; exact ⟨_, _, _, _, _, _, _, _, _, _, _, _, rfl, SlN.mono ClientD.steady s0 k, SlN.mono ScannerD.steady s1 k, s2.mono k, s3.mono k, SlN.mono ItemD.steady s4 k, s5.mono k⟩⟩
theorem DarkD.in_len {p : Nat → Prop} {w : World} {cs : List Value} {d : DarkD} (h : DarkD.In p w cs d) : cs.length = 6 := by obtain ⟨A0, c0, A1, c1, A2, c2, A3, c3, A4, c4, A5, c5, rfl, _⟩ := h; rfl
def DarkD.Ok (d : DarkD) : Prop := (∀ x ∈ d.clients, x.Ok) ∧ (∀ x ∈ d.scanners, x.Ok) ∧ (∀ x ∈ d.given, x.Ok) ∧ (∀ x ∈ d.scanned, x.Ok) ∧ (∀ x ∈ d.items, x.Ok) ∧ (∀ x ∈ d.met, x.Ok)
def DarkD.lens (d : DarkD) : List Nat := (d.clients.length :: d.clients.flatMap ClientD.lens) ++ ((d.scanners.length :: d.scanners.flatMap ScannerD.lens) ++ ((d.given.length :: d.given.flatMap GivenD.lens) ++ ((d.scanned.length :: d.scanned.flatMap GivenD.lens) ++ ((d.items.length :: d.items.flatMap ItemD.lens) ++ ([d.met.length] ++ [])))))
set_option maxRecDepth 100000 in
theorem DarkD.typed {w : World} {n : Nat} {cs : List Value} (h : Typed Try.prog w n 117 cs) : ∃ d : DarkD, DarkD.In AnyB w cs d ∧ d.Ok := by
  obtain ⟨hl, m, hf⟩ := typed_struct Try.underlying117 h
  have hC : Try.prog.cellsOf 117 = 6 := by kernel_rfl
  have hs0 : Try.prog.cellsOf 112 = 1 := by kernel_rfl
  have hs1 : Try.prog.cellsOf 113 = 1 := by kernel_rfl
  have hs2 : Try.prog.cellsOf 53 = 1 := by kernel_rfl
  have hs3 : Try.prog.cellsOf 114 = 1 := by kernel_rfl
  have hs4 : Try.prog.cellsOf 115 = 1 := by kernel_rfl
  rw [hC] at hl
  match cs, hl with
  | [x0, x1, x2, x3, x4, x5], _ =>
    have f0 := hf _ (List.mem_iff_getElem?.2 ⟨0, rfl⟩)
    simp only [hs0, List.drop_zero, List.take_succ_cons, List.take_zero] at f0
    obtain ⟨A0, c0, a0, e0, s0, w0⟩ := typed_sliceN ClientD.In ClientD.Ok 8 Try.underlying112 (by kernel_rfl) (by decide) (fun cs a h => ClientD.in_len h) (fun m es h => ClientD.typed h) f0
    obtain rfl : x0 = _ := by simpa using e0
    have f1 := hf _ (List.mem_iff_getElem?.2 ⟨1, rfl⟩)
    simp only [hs1, List.drop_succ_cons, List.drop_zero, List.take_succ_cons, List.take_zero] at f1
    obtain ⟨A1, c1, a1, e1, s1, w1⟩ := typed_sliceN ScannerD.In ScannerD.Ok 10 Try.underlying113 (by kernel_rfl) (by decide) (fun cs a h => ScannerD.in_len h) (fun m es h => ScannerD.typed h) f1
    obtain rfl : x1 = _ := by simpa using e1
    have f2 := hf _ (List.mem_iff_getElem?.2 ⟨2, rfl⟩)
    simp only [hs2, List.drop_succ_cons, List.drop_zero, List.take_succ_cons, List.take_zero] at f2
    obtain ⟨A2, c2, a2, e2, s2, w2⟩ := typed_sliceF GivenD.cells GivenD.Ok 7 Try.underlying53 (by kernel_rfl) (by decide) GivenD.cells_length (fun m es h => GivenD.typed h) f2
    obtain rfl : x2 = _ := by simpa using e2
    have f3 := hf _ (List.mem_iff_getElem?.2 ⟨3, rfl⟩)
    simp only [hs2, List.drop_succ_cons, List.drop_zero, List.take_succ_cons, List.take_zero] at f3
    obtain ⟨A3, c3, a3, e3, s3, w3⟩ := typed_sliceF GivenD.cells GivenD.Ok 7 Try.underlying53 (by kernel_rfl) (by decide) GivenD.cells_length (fun m es h => GivenD.typed h) f3
    obtain rfl : x3 = _ := by simpa using e3
    have f4 := hf _ (List.mem_iff_getElem?.2 ⟨4, rfl⟩)
    simp only [hs3, List.drop_succ_cons, List.drop_zero, List.take_succ_cons, List.take_zero] at f4
    obtain ⟨A4, c4, a4, e4, s4, w4⟩ := typed_sliceN ItemD.In ItemD.Ok 22 Try.underlying114 (by kernel_rfl) (by decide) (fun cs a h => ItemD.in_len h) (fun m es h => ItemD.typed h) f4
    obtain rfl : x4 = _ := by simpa using e4
    have f5 := hf _ (List.mem_iff_getElem?.2 ⟨5, rfl⟩)
    simp only [hs4, List.drop_succ_cons, List.drop_zero, List.take_succ_cons, List.take_zero] at f5
    obtain ⟨A5, c5, a5, e5, s5, w5⟩ := typed_sliceF MeetingD.cells MeetingD.Ok 4 Try.underlying115 (by kernel_rfl) (by decide) MeetingD.cells_length (fun m es h => MeetingD.typed h) f5
    obtain rfl : x5 = _ := by simpa using e5
    exact ⟨⟨a0, a1, a2, a3, a4, a5⟩, ⟨_, _, _, _, _, _, _, _, _, _, _, _, rfl, s0, s1, s2, s3, s4, s5⟩, w0, w1, w2, w3, w4, w5⟩
theorem szMeetingS_flat (A : Option Addr) (c : Nat) (l : List MeetingD) (left : Int) (w : World) (hl : l.length ≤ maxLen) (h0 : 0 ≤ left) (h1 : left ≤ 1048576) :
    Calls Try.prog 138 #[.slice A l.length c, .int .i64 left] w fun e w' => e = .returned (.int .i64 (szL [l.length] left)) ∧ Ext w w' := by
  unfold maxLen at hl
  by_cases c0 : left - (l.length : Int) < 0
  all_goals
    go_enter Try.func138, Try.ntmps138
    go_wp2_with fail
    go_ret
    exact ⟨ret_int (by simp only [szL]; first | rw [if_pos c0] | rw [if_neg (by omega)]), by go_grown⟩
set_option maxHeartbeats 2000000 in
set_option maxRecDepth 100000 in
theorem szDark_any (d : DarkD) (A0 : Option Addr) (c0 : Nat) (A1 : Option Addr) (c1 : Nat) (A2 : Option Addr) (c2 : Nat) (A3 : Option Addr) (c3 : Nat) (A4 : Option Addr) (c4 : Nat) (A5 : Option Addr) (c5 : Nat) (left : Int) (w : World) (hok : d.Ok) (s0 : SlN AnyB ClientD.In 8 w A0 d.clients c0) (s1 : SlN AnyB ScannerD.In 10 w A1 d.scanners c1) (s2 : SlF AnyB GivenD.cells 7 w A2 d.given c2) (s3 : SlF AnyB GivenD.cells 7 w A3 d.scanned c3) (s4 : SlN AnyB ItemD.In 22 w A4 d.items c4) (s5 : SlF AnyB MeetingD.cells 4 w A5 d.met c5) (h0 : 0 ≤ left) (h1 : left ≤ 1048576) :
    Calls Try.prog 65 #[.agg #[.slice A0 d.clients.length c0, .slice A1 d.scanners.length c1, .slice A2 d.given.length c2, .slice A3 d.scanned.length c3, .slice A4 d.items.length c4, .slice A5 d.met.length c5], .int .i64 left] w fun e w' => e = .returned (.int .i64 (szL d.lens left)) ∧ Ext w w' := by
  obtain ⟨k_clients, k_scanners, k_given, k_scanned, k_items, k_met⟩ := hok
  have S0 := Lib.hid s0; clear s0
  have S1 := Lib.hid s1; clear s1
  have S2 := Lib.hid s2; clear s2
  have S3 := Lib.hid s3; clear s3
  have S4 := Lib.hid s4; clear s4
  have S5 := Lib.hid s5; clear s5
  have K_clients := Lib.hid k_clients; clear k_clients
  have K_scanners := Lib.hid k_scanners; clear k_scanners
  have K_given := Lib.hid k_given; clear k_given
  have K_scanned := Lib.hid k_scanned; clear k_scanned
  have K_items := Lib.hid k_items; clear k_items
  have K_met := Lib.hid k_met; clear k_met
  have K0 := Lib.hid (Blk.new w 117 #[.slice A0 d.clients.length c0, .slice A1 d.scanners.length c1, .slice A2 d.given.length c2, .slice A3 d.scanned.length c3, .slice A4 d.items.length c4, .slice A5 d.met.length c5])
  have He := Lib.hid (Ext.new (Below.refl w.heap.size w) (.cells #[.slice A0 d.clients.length c0, .slice A1 d.scanners.length c1, .slice A2 d.given.length c2, .slice A3 d.scanned.length c3, .slice A4 d.items.length c4, .slice A5 d.met.length c5] 117))
  obtain ⟨fin, hfin⟩ : ∃ fin, fin = szL d.lens left := ⟨_, rfl⟩
  have F : Hid (szL ((d.clients.length :: d.clients.flatMap ClientD.lens) ++ ((d.scanners.length :: d.scanners.flatMap ScannerD.lens) ++ ((d.given.length :: d.given.flatMap GivenD.lens) ++ ((d.scanned.length :: d.scanned.flatMap GivenD.lens) ++ ((d.items.length :: d.items.flatMap ItemD.lens) ++ ([d.met.length] ++ [])))))) left = fin) := Lib.hid hfin.symm
  rw [← hfin]
  clear hfin
  go_enter Try.func65, Try.ntmps65
  go_wp2_with fail
  refine (szClientS_any A0 c0 d.clients left _ (SlN.ext ClientD.steady S0.out He.out) K_clients.out h0 h1).mono ?_
  rintro e w1 ⟨rfl, hx⟩
  have K1 := K0.out.ext hx; have he := He.out.next hx; clear hx K0 He
  obtain ⟨r0, m0⟩ := K1.rules
  have hp := szL_pos (d.clients.length :: d.clients.flatMap ClientD.lens) left h0
  have hqq := szL_le (d.clients.length :: d.clients.flatMap ClientD.lens) left
  by_cases n0 : szL (d.clients.length :: d.clients.flatMap ClientD.lens) left < 0
  · have E := Lib.hid (show (-1 : Int) = fin by rw [← F.out, szL_append _ _ _ h0, if_pos n0])
    have ev : szL (d.clients.length :: d.clients.flatMap ClientD.lens) left = -1 := by omega
    clear hp hqq F
    go_wp2_with fail
    go_ret
    exact ⟨ret_int E.out, he⟩
  have F2 : Hid (szL ((d.scanners.length :: d.scanners.flatMap ScannerD.lens) ++ ((d.given.length :: d.given.flatMap GivenD.lens) ++ ((d.scanned.length :: d.scanned.flatMap GivenD.lens) ++ ((d.items.length :: d.items.flatMap ItemD.lens) ++ ([d.met.length] ++ []))))) (szL (d.clients.length :: d.clients.flatMap ClientD.lens) left) = fin) := Lib.hid (by rw [← F.out, szL_append _ _ _ h0, if_neg n0])
  clear F
  have u0 : 0 ≤ szL (d.clients.length :: d.clients.flatMap ClientD.lens) left := by omega
  have v0 : szL (d.clients.length :: d.clients.flatMap ClientD.lens) left ≤ 1048576 := by omega
  clear hp hqq
  generalize szL (d.clients.length :: d.clients.flatMap ClientD.lens) left = q0 at *
  have F := F2
  clear F2
  go_wp2_with fail
  refine (szScannerS_any A1 c1 d.scanners q0 _ (SlN.ext ScannerD.steady S1.out he) K_scanners.out u0 v0).mono ?_
  rintro e w2 ⟨rfl, hx⟩
  replace K1 := K1.ext hx; replace he := he.next hx; clear hx r0 m0
  obtain ⟨r0, m0⟩ := K1.rules
  have hp := szL_pos (d.scanners.length :: d.scanners.flatMap ScannerD.lens) q0 u0
  have hqq := szL_le (d.scanners.length :: d.scanners.flatMap ScannerD.lens) q0
  by_cases n1 : szL (d.scanners.length :: d.scanners.flatMap ScannerD.lens) q0 < 0
  · have E := Lib.hid (show (-1 : Int) = fin by rw [← F.out, szL_append _ _ _ u0, if_pos n1])
    have ev : szL (d.scanners.length :: d.scanners.flatMap ScannerD.lens) q0 = -1 := by omega
    clear hp hqq F
    go_wp2_with fail
    go_ret
    exact ⟨ret_int E.out, he⟩
  have F2 : Hid (szL ((d.given.length :: d.given.flatMap GivenD.lens) ++ ((d.scanned.length :: d.scanned.flatMap GivenD.lens) ++ ((d.items.length :: d.items.flatMap ItemD.lens) ++ ([d.met.length] ++ [])))) (szL (d.scanners.length :: d.scanners.flatMap ScannerD.lens) q0) = fin) := Lib.hid (by rw [← F.out, szL_append _ _ _ u0, if_neg n1])
  clear F
  have u1 : 0 ≤ szL (d.scanners.length :: d.scanners.flatMap ScannerD.lens) q0 := by omega
  have v1 : szL (d.scanners.length :: d.scanners.flatMap ScannerD.lens) q0 ≤ 1048576 := by omega
  clear hp hqq
  generalize szL (d.scanners.length :: d.scanners.flatMap ScannerD.lens) q0 = q1 at *
  have F := F2
  clear F2
  go_wp2_with fail
  refine (szGivenS_any A2 c2 d.given q1 _ (S2.out.ext he).reads K_given.out S2.out.len u1 v1).mono ?_
  rintro e w3 ⟨rfl, hx⟩
  replace K1 := K1.ext hx; replace he := he.next hx; clear hx r0 m0
  obtain ⟨r0, m0⟩ := K1.rules
  have hp := szL_pos (d.given.length :: d.given.flatMap GivenD.lens) q1 u1
  have hqq := szL_le (d.given.length :: d.given.flatMap GivenD.lens) q1
  by_cases n2 : szL (d.given.length :: d.given.flatMap GivenD.lens) q1 < 0
  · have E := Lib.hid (show (-1 : Int) = fin by rw [← F.out, szL_append _ _ _ u1, if_pos n2])
    have ev : szL (d.given.length :: d.given.flatMap GivenD.lens) q1 = -1 := by omega
    clear hp hqq F
    go_wp2_with fail
    go_ret
    exact ⟨ret_int E.out, he⟩
  have F2 : Hid (szL ((d.scanned.length :: d.scanned.flatMap GivenD.lens) ++ ((d.items.length :: d.items.flatMap ItemD.lens) ++ ([d.met.length] ++ []))) (szL (d.given.length :: d.given.flatMap GivenD.lens) q1) = fin) := Lib.hid (by rw [← F.out, szL_append _ _ _ u1, if_neg n2])
  clear F
  have u2 : 0 ≤ szL (d.given.length :: d.given.flatMap GivenD.lens) q1 := by omega
  have v2 : szL (d.given.length :: d.given.flatMap GivenD.lens) q1 ≤ 1048576 := by omega
  clear hp hqq
  generalize szL (d.given.length :: d.given.flatMap GivenD.lens) q1 = q2 at *
  have F := F2
  clear F2
  go_wp2_with fail
  refine (szGivenS_any A3 c3 d.scanned q2 _ (S3.out.ext he).reads K_scanned.out S3.out.len u2 v2).mono ?_
  rintro e w4 ⟨rfl, hx⟩
  replace K1 := K1.ext hx; replace he := he.next hx; clear hx r0 m0
  obtain ⟨r0, m0⟩ := K1.rules
  have hp := szL_pos (d.scanned.length :: d.scanned.flatMap GivenD.lens) q2 u2
  have hqq := szL_le (d.scanned.length :: d.scanned.flatMap GivenD.lens) q2
  by_cases n3 : szL (d.scanned.length :: d.scanned.flatMap GivenD.lens) q2 < 0
  · have E := Lib.hid (show (-1 : Int) = fin by rw [← F.out, szL_append _ _ _ u2, if_pos n3])
    have ev : szL (d.scanned.length :: d.scanned.flatMap GivenD.lens) q2 = -1 := by omega
    clear hp hqq F
    go_wp2_with fail
    go_ret
    exact ⟨ret_int E.out, he⟩
  have F2 : Hid (szL ((d.items.length :: d.items.flatMap ItemD.lens) ++ ([d.met.length] ++ [])) (szL (d.scanned.length :: d.scanned.flatMap GivenD.lens) q2) = fin) := Lib.hid (by rw [← F.out, szL_append _ _ _ u2, if_neg n3])
  clear F
  have u3 : 0 ≤ szL (d.scanned.length :: d.scanned.flatMap GivenD.lens) q2 := by omega
  have v3 : szL (d.scanned.length :: d.scanned.flatMap GivenD.lens) q2 ≤ 1048576 := by omega
  clear hp hqq
  generalize szL (d.scanned.length :: d.scanned.flatMap GivenD.lens) q2 = q3 at *
  have F := F2
  clear F2
  go_wp2_with fail
  refine (szItemS_any A4 c4 d.items q3 _ (SlN.ext ItemD.steady S4.out he) K_items.out u3 v3).mono ?_
  rintro e w5 ⟨rfl, hx⟩
  replace K1 := K1.ext hx; replace he := he.next hx; clear hx r0 m0
  obtain ⟨r0, m0⟩ := K1.rules
  have hp := szL_pos (d.items.length :: d.items.flatMap ItemD.lens) q3 u3
  have hqq := szL_le (d.items.length :: d.items.flatMap ItemD.lens) q3
  by_cases n4 : szL (d.items.length :: d.items.flatMap ItemD.lens) q3 < 0
  · have E := Lib.hid (show (-1 : Int) = fin by rw [← F.out, szL_append _ _ _ u3, if_pos n4])
    have ev : szL (d.items.length :: d.items.flatMap ItemD.lens) q3 = -1 := by omega
    clear hp hqq F
    go_wp2_with fail
    go_ret
    exact ⟨ret_int E.out, he⟩
  have F2 : Hid (szL ([d.met.length] ++ []) (szL (d.items.length :: d.items.flatMap ItemD.lens) q3) = fin) := Lib.hid (by rw [← F.out, szL_append _ _ _ u3, if_neg n4])
  clear F
  have u4 : 0 ≤ szL (d.items.length :: d.items.flatMap ItemD.lens) q3 := by omega
  have v4 : szL (d.items.length :: d.items.flatMap ItemD.lens) q3 ≤ 1048576 := by omega
  clear hp hqq
  generalize szL (d.items.length :: d.items.flatMap ItemD.lens) q3 = q4 at *
  have F := F2
  clear F2
  go_wp2_with fail
  refine (szMeetingS_flat A5 c5 d.met q4 _ S5.out.len u4 v4).mono ?_
  rintro e w6 ⟨rfl, hx⟩
  replace K1 := K1.ext hx; replace he := he.next hx; clear hx r0 m0
  obtain ⟨r0, m0⟩ := K1.rules
  have hp := szL_pos [d.met.length] q4 u4
  have hqq := szL_le [d.met.length] q4
  by_cases n5 : szL [d.met.length] q4 < 0
  · have E := Lib.hid (show (-1 : Int) = fin by rw [← F.out, szL_append _ _ _ u4, if_pos n5])
    have ev : szL [d.met.length] q4 = -1 := by omega
    clear hp hqq F
    go_wp2_with fail
    go_ret
    exact ⟨ret_int E.out, he⟩
  have F2 : Hid (szL ([]) (szL [d.met.length] q4) = fin) := Lib.hid (by rw [← F.out, szL_append _ _ _ u4, if_neg n5])
  clear F
  have u5 : 0 ≤ szL [d.met.length] q4 := by omega
  have v5 : szL [d.met.length] q4 ≤ 1048576 := by omega
  clear hp hqq
  generalize szL [d.met.length] q4 = q5 at *
  have F := F2
  clear F2
  go_wp2_with fail
  go_ret
  exact ⟨ret_int (show q5 = fin from F.out), he⟩
set_option maxHeartbeats 4000000 in
set_option maxRecDepth 100000 in
theorem toDark_any (d : DarkD) (A0 : Option Addr) (c0 : Nat) (A1 : Option Addr) (c1 : Nat) (A2 : Option Addr) (c2 : Nat) (A3 : Option Addr) (c3 : Nat) (A4 : Option Addr) (c4 : Nat) (A5 : Option Addr) (c5 : Nat) (w : World) (s0 : SlN AnyB ClientD.In 8 w A0 d.clients c0) (s1 : SlN AnyB ScannerD.In 10 w A1 d.scanners c1) (s2 : SlF AnyB GivenD.cells 7 w A2 d.given c2) (s3 : SlF AnyB GivenD.cells 7 w A3 d.scanned c3) (s4 : SlN AnyB ItemD.In 22 w A4 d.items c4) (s5 : SlF AnyB MeetingD.cells 4 w A5 d.met c5) (hf : ∀ n ∈ d.lens, n ≤ 1048576) :
    Calls Try.prog 67 #[.agg #[.slice A0 d.clients.length c0, .slice A1 d.scanners.length c1, .slice A2 d.given.length c2, .slice A3 d.scanned.length c3, .slice A4 d.items.length c4, .slice A5 d.met.length c5]] w fun e w' => ∃ cs, e = .returned (.agg cs.toArray) ∧ DarkD.In (FromB w.heap.size) w' cs d ∧ Ext w w' := by
  have l_clients : d.clients.length ≤ 1048576 := hf _ (by simp [DarkD.lens])
  have L_clients : Hid (∀ x ∈ d.clients, ∀ n ∈ x.lens, n ≤ 1048576) := Lib.hid (fun x hx n hn => hf n (by simp only [DarkD.lens, List.mem_append, List.mem_cons, List.mem_flatMap]; simp only [show (∃ a, a ∈ d.clients ∧ n ∈ a.lens) from ⟨x, hx, hn⟩]; simp))
  have l_scanners : d.scanners.length ≤ 1048576 := hf _ (by simp [DarkD.lens])
  have L_scanners : Hid (∀ x ∈ d.scanners, ∀ n ∈ x.lens, n ≤ 1048576) := Lib.hid (fun x hx n hn => hf n (by simp only [DarkD.lens, List.mem_append, List.mem_cons, List.mem_flatMap]; simp only [show (∃ a, a ∈ d.scanners ∧ n ∈ a.lens) from ⟨x, hx, hn⟩]; simp))
  have l_given : d.given.length ≤ 1048576 := hf _ (by simp [DarkD.lens])
  have l_scanned : d.scanned.length ≤ 1048576 := hf _ (by simp [DarkD.lens])
  have l_items : d.items.length ≤ 1048576 := hf _ (by simp [DarkD.lens])
  have L_items : Hid (∀ x ∈ d.items, ∀ n ∈ x.lens, n ≤ 1048576) := Lib.hid (fun x hx n hn => hf n (by simp only [DarkD.lens, List.mem_append, List.mem_cons, List.mem_flatMap]; simp only [show (∃ a, a ∈ d.items ∧ n ∈ a.lens) from ⟨x, hx, hn⟩]; simp))
  have l_met : d.met.length ≤ 1048576 := hf _ (by simp [DarkD.lens])
  have S0 := Lib.hid s0; clear s0
  have S1 := Lib.hid s1; clear s1
  have S2 := Lib.hid s2; clear s2
  have S3 := Lib.hid s3; clear s3
  have S4 := Lib.hid s4; clear s4
  have S5 := Lib.hid s5; clear s5
  clear hf
  go_enter Try.func67, Try.ntmps67
  go_wp2_with fail
  have HE : Ext w (((w.alloc (.cells #[.slice A0 d.clients.length c0, .slice A1 d.scanners.length c1, .slice A2 d.given.length c2, .slice A3 d.scanned.length c3, .slice A4 d.items.length c4, .slice A5 d.met.length c5] 117)).alloc (.cells #[.slice none 0 0, .slice none 0 0, .slice none 0 0, .slice none 0 0, .slice none 0 0, .slice none 0 0] 125)).alloc (.cells #[.slice none 0 0, .slice none 0 0, .slice none 0 0, .slice none 0 0, .slice none 0 0, .slice none 0 0] 125)) := Ext.new (Ext.new (Ext.new (Below.refl _ w) _) _) _
  refine (toClientS_any A0 c0 d.clients _ (SlN.ext ClientD.steady S0.out HE) l_clients L_clients.out).mono ?_
  rintro e x0 ⟨g0, rfl, hg, t0, hx⟩
  have B0 := (((Blk.new _ _ _).alloc _).alloc _).ext hx
  have B1 := ((Blk.new _ _ _).alloc _).ext hx
  have B2 := (Blk.new _ _ _).ext hx
  have he := HE.next hx
  have hgs : w.heap.size + 1 + 1 + 1 ≤ w.heap.size + 1 + 1 + 1 := Nat.le_refl _
  simp only [World.size_alloc] at B1 B2 hg
  have T0 : SlN (FromB (w.heap.size + 1 + 1 + 1)) ClientD.In 8 x0 (some ⟨g0, 0, none⟩) d.clients d.clients.length := SlN.mono ClientD.steady t0 (fun b hb => by unfold FromB at *; simp only [World.size_alloc] at hb; omega)
  clear hx HE hgs
  obtain ⟨r0, f0⟩ := B0.rules
  obtain ⟨r2, f2⟩ := B2.rules
  go_upto_region 3 with fail
  have he_ := ext_setCells (W := w) (g := (w.heap.size + 1 + 1)) (by omega) [.slice (some ⟨g0, 0, none⟩) d.clients.length d.clients.length] 0 x0 he
  have C2 := B2.put 0 [.slice (some ⟨g0, 0, none⟩) d.clients.length d.clients.length] #[.slice (some ⟨g0, 0, none⟩) d.clients.length d.clients.length, .slice none 0 0, .slice none 0 0, .slice none 0 0, .slice none 0 0, .slice none 0 0] (by simp) rfl
  have C1 := B1.farCells (g' := (w.heap.size + 1 + 1)) (by omega) [.slice (some ⟨g0, 0, none⟩) d.clients.length d.clients.length] 0
  have C0 := B0.farCells (g' := (w.heap.size + 1 + 1)) (by omega) [.slice (some ⟨g0, 0, none⟩) d.clients.length d.clients.length] 0
  replace T0 := SlN.keep ClientD.steady T0 (Keep.setCells (g := (w.heap.size + 1 + 1)) (by unfold FromB; omega) [.slice (some ⟨g0, 0, none⟩) d.clients.length d.clients.length] 0 x0)
  clear r0 f0 r2 f2 B0 B1 B2 he
  change Code.wp _ _ _ _ (x0.setCells (w.heap.size + 1 + 1) 0 [.slice (some ⟨g0, 0, none⟩) d.clients.length d.clients.length])
  generalize x0.setCells (w.heap.size + 1 + 1) 0 [.slice (some ⟨g0, 0, none⟩) d.clients.length d.clients.length] = y0 at *
  have B0 := C0; have B1 := C1; have B2 := C2; have he := he_
  clear C0 C1 C2 he_
  obtain ⟨r0, f0⟩ := B0.rules
  obtain ⟨r2, f2⟩ := B2.rules
  go_wp2_with fail
  refine (toScannerS_any A1 c1 d.scanners _ (SlN.ext ScannerD.steady S1.out he) l_scanners L_scanners.out).mono ?_
  rintro e x1 ⟨g1, rfl, hg, t1, hx⟩
  have hsz : w.heap.size + 1 + 1 + 1 ≤ y0.heap.size := B2.lt
  replace B0 := B0.ext hx; replace B1 := B1.ext hx; replace B2 := B2.ext hx; replace he := he.next hx
  replace T0 := (SlN.ext ClientD.steady T0 hx)
  have T1 : SlN (FromB (w.heap.size + 1 + 1 + 1)) ScannerD.In 10 x1 (some ⟨g1, 0, none⟩) d.scanners d.scanners.length := SlN.mono ScannerD.steady t1 (fun b hb => by unfold FromB at *; omega)
  clear hx hsz
  clear r0 f0 r2 f2
  obtain ⟨r0, f0⟩ := B0.rules
  obtain ⟨r2, f2⟩ := B2.rules
  go_upto_region 4 with fail
  have he_ := ext_setCells (W := w) (g := (w.heap.size + 1 + 1)) (by omega) [.slice (some ⟨g1, 0, none⟩) d.scanners.length d.scanners.length] 1 x1 he
  have C2 := B2.put 1 [.slice (some ⟨g1, 0, none⟩) d.scanners.length d.scanners.length] #[.slice (some ⟨g0, 0, none⟩) d.clients.length d.clients.length, .slice (some ⟨g1, 0, none⟩) d.scanners.length d.scanners.length, .slice none 0 0, .slice none 0 0, .slice none 0 0, .slice none 0 0] (by simp) rfl
  have C1 := B1.farCells (g' := (w.heap.size + 1 + 1)) (by omega) [.slice (some ⟨g1, 0, none⟩) d.scanners.length d.scanners.length] 1
  have C0 := B0.farCells (g' := (w.heap.size + 1 + 1)) (by omega) [.slice (some ⟨g1, 0, none⟩) d.scanners.length d.scanners.length] 1
  replace T0 := SlN.keep ClientD.steady T0 (Keep.setCells (g := (w.heap.size + 1 + 1)) (by unfold FromB; omega) [.slice (some ⟨g1, 0, none⟩) d.scanners.length d.scanners.length] 1 x1)
  replace T1 := SlN.keep ScannerD.steady T1 (Keep.setCells (g := (w.heap.size + 1 + 1)) (by unfold FromB; omega) [.slice (some ⟨g1, 0, none⟩) d.scanners.length d.scanners.length] 1 x1)
  clear r0 f0 r2 f2 B0 B1 B2 he
  change Code.wp _ _ _ _ (x1.setCells (w.heap.size + 1 + 1) 1 [.slice (some ⟨g1, 0, none⟩) d.scanners.length d.scanners.length])
  generalize x1.setCells (w.heap.size + 1 + 1) 1 [.slice (some ⟨g1, 0, none⟩) d.scanners.length d.scanners.length] = y1 at *
  have B0 := C0; have B1 := C1; have B2 := C2; have he := he_
  clear C0 C1 C2 he_
  obtain ⟨r0, f0⟩ := B0.rules
  obtain ⟨r2, f2⟩ := B2.rules
  go_wp2_with fail
  refine (toGivenS_any A2 c2 d.given _ (S2.out.ext he).reads l_given).mono ?_
  rintro e x2 ⟨g2, rfl, hg, bg, hx⟩
  have hsz : w.heap.size + 1 + 1 + 1 ≤ y1.heap.size := B2.lt
  replace B0 := B0.ext hx; replace B1 := B1.ext hx; replace B2 := B2.ext hx; replace he := he.next hx
  replace T0 := (SlN.ext ClientD.steady T0 hx)
  replace T1 := (SlN.ext ScannerD.steady T1 hx)
  have T2 : SlF (FromB (w.heap.size + 1 + 1 + 1)) GivenD.cells 7 x2 (some ⟨g2, 0, none⟩) d.given d.given.length := SlF.new GivenD.cells_length bg l_given (show _ ≤ _ by omega)
  clear hx hsz
  clear r0 f0 r2 f2
  obtain ⟨r0, f0⟩ := B0.rules
  obtain ⟨r2, f2⟩ := B2.rules
  go_upto_region 5 with fail
  have he_ := ext_setCells (W := w) (g := (w.heap.size + 1 + 1)) (by omega) [.slice (some ⟨g2, 0, none⟩) d.given.length d.given.length] 2 x2 he
  have C2 := B2.put 2 [.slice (some ⟨g2, 0, none⟩) d.given.length d.given.length] #[.slice (some ⟨g0, 0, none⟩) d.clients.length d.clients.length, .slice (some ⟨g1, 0, none⟩) d.scanners.length d.scanners.length, .slice (some ⟨g2, 0, none⟩) d.given.length d.given.length, .slice none 0 0, .slice none 0 0, .slice none 0 0] (by simp) rfl
  have C1 := B1.farCells (g' := (w.heap.size + 1 + 1)) (by omega) [.slice (some ⟨g2, 0, none⟩) d.given.length d.given.length] 2
  have C0 := B0.farCells (g' := (w.heap.size + 1 + 1)) (by omega) [.slice (some ⟨g2, 0, none⟩) d.given.length d.given.length] 2
  replace T0 := SlN.keep ClientD.steady T0 (Keep.setCells (g := (w.heap.size + 1 + 1)) (by unfold FromB; omega) [.slice (some ⟨g2, 0, none⟩) d.given.length d.given.length] 2 x2)
  replace T1 := SlN.keep ScannerD.steady T1 (Keep.setCells (g := (w.heap.size + 1 + 1)) (by unfold FromB; omega) [.slice (some ⟨g2, 0, none⟩) d.given.length d.given.length] 2 x2)
  replace T2 := T2.keep (Keep.setCells (g := (w.heap.size + 1 + 1)) (by unfold FromB; omega) [.slice (some ⟨g2, 0, none⟩) d.given.length d.given.length] 2 x2)
  clear r0 f0 r2 f2 B0 B1 B2 he
  change Code.wp _ _ _ _ (x2.setCells (w.heap.size + 1 + 1) 2 [.slice (some ⟨g2, 0, none⟩) d.given.length d.given.length])
  generalize x2.setCells (w.heap.size + 1 + 1) 2 [.slice (some ⟨g2, 0, none⟩) d.given.length d.given.length] = y2 at *
  have B0 := C0; have B1 := C1; have B2 := C2; have he := he_
  clear C0 C1 C2 he_
  obtain ⟨r0, f0⟩ := B0.rules
  obtain ⟨r2, f2⟩ := B2.rules
  go_wp2_with fail
  refine (toGivenS_any A3 c3 d.scanned _ (S3.out.ext he).reads l_scanned).mono ?_
  rintro e x3 ⟨g3, rfl, hg, bg, hx⟩
  have hsz : w.heap.size + 1 + 1 + 1 ≤ y2.heap.size := B2.lt
  replace B0 := B0.ext hx; replace B1 := B1.ext hx; replace B2 := B2.ext hx; replace he := he.next hx
  replace T0 := (SlN.ext ClientD.steady T0 hx)
  replace T1 := (SlN.ext ScannerD.steady T1 hx)
  replace T2 := (T2.ext hx)
  have T3 : SlF (FromB (w.heap.size + 1 + 1 + 1)) GivenD.cells 7 x3 (some ⟨g3, 0, none⟩) d.scanned d.scanned.length := SlF.new GivenD.cells_length bg l_scanned (show _ ≤ _ by omega)
  clear hx hsz
  clear r0 f0 r2 f2
  obtain ⟨r0, f0⟩ := B0.rules
  obtain ⟨r2, f2⟩ := B2.rules
  go_upto_region 6 with fail
  have he_ := ext_setCells (W := w) (g := (w.heap.size + 1 + 1)) (by omega) [.slice (some ⟨g3, 0, none⟩) d.scanned.length d.scanned.length] 3 x3 he
  have C2 := B2.put 3 [.slice (some ⟨g3, 0, none⟩) d.scanned.length d.scanned.length] #[.slice (some ⟨g0, 0, none⟩) d.clients.length d.clients.length, .slice (some ⟨g1, 0, none⟩) d.scanners.length d.scanners.length, .slice (some ⟨g2, 0, none⟩) d.given.length d.given.length, .slice (some ⟨g3, 0, none⟩) d.scanned.length d.scanned.length, .slice none 0 0, .slice none 0 0] (by simp) rfl
  have C1 := B1.farCells (g' := (w.heap.size + 1 + 1)) (by omega) [.slice (some ⟨g3, 0, none⟩) d.scanned.length d.scanned.length] 3
  have C0 := B0.farCells (g' := (w.heap.size + 1 + 1)) (by omega) [.slice (some ⟨g3, 0, none⟩) d.scanned.length d.scanned.length] 3
  replace T0 := SlN.keep ClientD.steady T0 (Keep.setCells (g := (w.heap.size + 1 + 1)) (by unfold FromB; omega) [.slice (some ⟨g3, 0, none⟩) d.scanned.length d.scanned.length] 3 x3)
  replace T1 := SlN.keep ScannerD.steady T1 (Keep.setCells (g := (w.heap.size + 1 + 1)) (by unfold FromB; omega) [.slice (some ⟨g3, 0, none⟩) d.scanned.length d.scanned.length] 3 x3)
  replace T2 := T2.keep (Keep.setCells (g := (w.heap.size + 1 + 1)) (by unfold FromB; omega) [.slice (some ⟨g3, 0, none⟩) d.scanned.length d.scanned.length] 3 x3)
  replace T3 := T3.keep (Keep.setCells (g := (w.heap.size + 1 + 1)) (by unfold FromB; omega) [.slice (some ⟨g3, 0, none⟩) d.scanned.length d.scanned.length] 3 x3)
  clear r0 f0 r2 f2 B0 B1 B2 he
  change Code.wp _ _ _ _ (x3.setCells (w.heap.size + 1 + 1) 3 [.slice (some ⟨g3, 0, none⟩) d.scanned.length d.scanned.length])
  generalize x3.setCells (w.heap.size + 1 + 1) 3 [.slice (some ⟨g3, 0, none⟩) d.scanned.length d.scanned.length] = y3 at *
  have B0 := C0; have B1 := C1; have B2 := C2; have he := he_
  clear C0 C1 C2 he_
  obtain ⟨r0, f0⟩ := B0.rules
  obtain ⟨r2, f2⟩ := B2.rules
  go_wp2_with fail
  refine (toItemS_any A4 c4 d.items _ (SlN.ext ItemD.steady S4.out he) l_items L_items.out).mono ?_
  rintro e x4 ⟨g4, rfl, hg, t4, hx⟩
  have hsz : w.heap.size + 1 + 1 + 1 ≤ y3.heap.size := B2.lt
  replace B0 := B0.ext hx; replace B1 := B1.ext hx; replace B2 := B2.ext hx; replace he := he.next hx
  replace T0 := (SlN.ext ClientD.steady T0 hx)
  replace T1 := (SlN.ext ScannerD.steady T1 hx)
  replace T2 := (T2.ext hx)
  replace T3 := (T3.ext hx)
  have T4 : SlN (FromB (w.heap.size + 1 + 1 + 1)) ItemD.In 22 x4 (some ⟨g4, 0, none⟩) d.items d.items.length := SlN.mono ItemD.steady t4 (fun b hb => by unfold FromB at *; omega)
  clear hx hsz
  clear r0 f0 r2 f2
  obtain ⟨r0, f0⟩ := B0.rules
  obtain ⟨r2, f2⟩ := B2.rules
  go_upto_region 7 with fail
  have he_ := ext_setCells (W := w) (g := (w.heap.size + 1 + 1)) (by omega) [.slice (some ⟨g4, 0, none⟩) d.items.length d.items.length] 4 x4 he
  have C2 := B2.put 4 [.slice (some ⟨g4, 0, none⟩) d.items.length d.items.length] #[.slice (some ⟨g0, 0, none⟩) d.clients.length d.clients.length, .slice (some ⟨g1, 0, none⟩) d.scanners.length d.scanners.length, .slice (some ⟨g2, 0, none⟩) d.given.length d.given.length, .slice (some ⟨g3, 0, none⟩) d.scanned.length d.scanned.length, .slice (some ⟨g4, 0, none⟩) d.items.length d.items.length, .slice none 0 0] (by simp) rfl
  have C1 := B1.farCells (g' := (w.heap.size + 1 + 1)) (by omega) [.slice (some ⟨g4, 0, none⟩) d.items.length d.items.length] 4
  have C0 := B0.farCells (g' := (w.heap.size + 1 + 1)) (by omega) [.slice (some ⟨g4, 0, none⟩) d.items.length d.items.length] 4
  replace T0 := SlN.keep ClientD.steady T0 (Keep.setCells (g := (w.heap.size + 1 + 1)) (by unfold FromB; omega) [.slice (some ⟨g4, 0, none⟩) d.items.length d.items.length] 4 x4)
  replace T1 := SlN.keep ScannerD.steady T1 (Keep.setCells (g := (w.heap.size + 1 + 1)) (by unfold FromB; omega) [.slice (some ⟨g4, 0, none⟩) d.items.length d.items.length] 4 x4)
  replace T2 := T2.keep (Keep.setCells (g := (w.heap.size + 1 + 1)) (by unfold FromB; omega) [.slice (some ⟨g4, 0, none⟩) d.items.length d.items.length] 4 x4)
  replace T3 := T3.keep (Keep.setCells (g := (w.heap.size + 1 + 1)) (by unfold FromB; omega) [.slice (some ⟨g4, 0, none⟩) d.items.length d.items.length] 4 x4)
  replace T4 := SlN.keep ItemD.steady T4 (Keep.setCells (g := (w.heap.size + 1 + 1)) (by unfold FromB; omega) [.slice (some ⟨g4, 0, none⟩) d.items.length d.items.length] 4 x4)
  clear r0 f0 r2 f2 B0 B1 B2 he
  change Code.wp _ _ _ _ (x4.setCells (w.heap.size + 1 + 1) 4 [.slice (some ⟨g4, 0, none⟩) d.items.length d.items.length])
  generalize x4.setCells (w.heap.size + 1 + 1) 4 [.slice (some ⟨g4, 0, none⟩) d.items.length d.items.length] = y4 at *
  have B0 := C0; have B1 := C1; have B2 := C2; have he := he_
  clear C0 C1 C2 he_
  obtain ⟨r0, f0⟩ := B0.rules
  obtain ⟨r2, f2⟩ := B2.rules
  go_wp2_with fail
  refine (toMeetingS_any A5 c5 d.met _ (S5.out.ext he).reads l_met).mono ?_
  rintro e x5 ⟨g5, rfl, hg, bg, hx⟩
  have hsz : w.heap.size + 1 + 1 + 1 ≤ y4.heap.size := B2.lt
  replace B0 := B0.ext hx; replace B1 := B1.ext hx; replace B2 := B2.ext hx; replace he := he.next hx
  replace T0 := (SlN.ext ClientD.steady T0 hx)
  replace T1 := (SlN.ext ScannerD.steady T1 hx)
  replace T2 := (T2.ext hx)
  replace T3 := (T3.ext hx)
  replace T4 := (SlN.ext ItemD.steady T4 hx)
  have T5 : SlF (FromB (w.heap.size + 1 + 1 + 1)) MeetingD.cells 4 x5 (some ⟨g5, 0, none⟩) d.met d.met.length := SlF.new MeetingD.cells_length bg l_met (show _ ≤ _ by omega)
  clear hx hsz
  clear r0 f0 r2 f2
  obtain ⟨r0, f0⟩ := B0.rules
  obtain ⟨r2, f2⟩ := B2.rules
  go_upto_region 8 with fail
  have he_ := ext_setCells (W := w) (g := (w.heap.size + 1 + 1)) (by omega) [.slice (some ⟨g5, 0, none⟩) d.met.length d.met.length] 5 x5 he
  have C2 := B2.put 5 [.slice (some ⟨g5, 0, none⟩) d.met.length d.met.length] #[.slice (some ⟨g0, 0, none⟩) d.clients.length d.clients.length, .slice (some ⟨g1, 0, none⟩) d.scanners.length d.scanners.length, .slice (some ⟨g2, 0, none⟩) d.given.length d.given.length, .slice (some ⟨g3, 0, none⟩) d.scanned.length d.scanned.length, .slice (some ⟨g4, 0, none⟩) d.items.length d.items.length, .slice (some ⟨g5, 0, none⟩) d.met.length d.met.length] (by simp) rfl
  have C1 := B1.farCells (g' := (w.heap.size + 1 + 1)) (by omega) [.slice (some ⟨g5, 0, none⟩) d.met.length d.met.length] 5
  have C0 := B0.farCells (g' := (w.heap.size + 1 + 1)) (by omega) [.slice (some ⟨g5, 0, none⟩) d.met.length d.met.length] 5
  replace T0 := SlN.keep ClientD.steady T0 (Keep.setCells (g := (w.heap.size + 1 + 1)) (by unfold FromB; omega) [.slice (some ⟨g5, 0, none⟩) d.met.length d.met.length] 5 x5)
  replace T1 := SlN.keep ScannerD.steady T1 (Keep.setCells (g := (w.heap.size + 1 + 1)) (by unfold FromB; omega) [.slice (some ⟨g5, 0, none⟩) d.met.length d.met.length] 5 x5)
  replace T2 := T2.keep (Keep.setCells (g := (w.heap.size + 1 + 1)) (by unfold FromB; omega) [.slice (some ⟨g5, 0, none⟩) d.met.length d.met.length] 5 x5)
  replace T3 := T3.keep (Keep.setCells (g := (w.heap.size + 1 + 1)) (by unfold FromB; omega) [.slice (some ⟨g5, 0, none⟩) d.met.length d.met.length] 5 x5)
  replace T4 := SlN.keep ItemD.steady T4 (Keep.setCells (g := (w.heap.size + 1 + 1)) (by unfold FromB; omega) [.slice (some ⟨g5, 0, none⟩) d.met.length d.met.length] 5 x5)
  replace T5 := T5.keep (Keep.setCells (g := (w.heap.size + 1 + 1)) (by unfold FromB; omega) [.slice (some ⟨g5, 0, none⟩) d.met.length d.met.length] 5 x5)
  clear r0 f0 r2 f2 B0 B1 B2 he
  change Code.wp _ _ _ _ (x5.setCells (w.heap.size + 1 + 1) 5 [.slice (some ⟨g5, 0, none⟩) d.met.length d.met.length])
  generalize x5.setCells (w.heap.size + 1 + 1) 5 [.slice (some ⟨g5, 0, none⟩) d.met.length d.met.length] = y5 at *
  have B0 := C0; have B1 := C1; have B2 := C2; have he := he_
  clear C0 C1 C2 he_
  obtain ⟨r0, f0⟩ := B0.rules
  obtain ⟨r2, f2⟩ := B2.rules
  obtain ⟨r1, f1⟩ := B1.rules
  go_wp2_with fail
  have he_ := ext_setCells (W := w) (g := w.heap.size + 1) (by omega) [.slice (some ⟨g0, 0, none⟩) d.clients.length d.clients.length, .slice (some ⟨g1, 0, none⟩) d.scanners.length d.scanners.length, .slice (some ⟨g2, 0, none⟩) d.given.length d.given.length, .slice (some ⟨g3, 0, none⟩) d.scanned.length d.scanned.length, .slice (some ⟨g4, 0, none⟩) d.items.length d.items.length, .slice (some ⟨g5, 0, none⟩) d.met.length d.met.length] 0 y5 he
  have E1 := B1.put 0 [.slice (some ⟨g0, 0, none⟩) d.clients.length d.clients.length, .slice (some ⟨g1, 0, none⟩) d.scanners.length d.scanners.length, .slice (some ⟨g2, 0, none⟩) d.given.length d.given.length, .slice (some ⟨g3, 0, none⟩) d.scanned.length d.scanned.length, .slice (some ⟨g4, 0, none⟩) d.items.length d.items.length, .slice (some ⟨g5, 0, none⟩) d.met.length d.met.length] #[.slice (some ⟨g0, 0, none⟩) d.clients.length d.clients.length, .slice (some ⟨g1, 0, none⟩) d.scanners.length d.scanners.length, .slice (some ⟨g2, 0, none⟩) d.given.length d.given.length, .slice (some ⟨g3, 0, none⟩) d.scanned.length d.scanned.length, .slice (some ⟨g4, 0, none⟩) d.items.length d.items.length, .slice (some ⟨g5, 0, none⟩) d.met.length d.met.length] (by simp) rfl
  replace T0 := SlN.keep ClientD.steady T0 (Keep.setCells (g := w.heap.size + 1) (by unfold FromB; omega) [.slice (some ⟨g0, 0, none⟩) d.clients.length d.clients.length, .slice (some ⟨g1, 0, none⟩) d.scanners.length d.scanners.length, .slice (some ⟨g2, 0, none⟩) d.given.length d.given.length, .slice (some ⟨g3, 0, none⟩) d.scanned.length d.scanned.length, .slice (some ⟨g4, 0, none⟩) d.items.length d.items.length, .slice (some ⟨g5, 0, none⟩) d.met.length d.met.length] 0 y5)
  replace T1 := SlN.keep ScannerD.steady T1 (Keep.setCells (g := w.heap.size + 1) (by unfold FromB; omega) [.slice (some ⟨g0, 0, none⟩) d.clients.length d.clients.length, .slice (some ⟨g1, 0, none⟩) d.scanners.length d.scanners.length, .slice (some ⟨g2, 0, none⟩) d.given.length d.given.length, .slice (some ⟨g3, 0, none⟩) d.scanned.length d.scanned.length, .slice (some ⟨g4, 0, none⟩) d.items.length d.items.length, .slice (some ⟨g5, 0, none⟩) d.met.length d.met.length] 0 y5)
  replace T2 := T2.keep (Keep.setCells (g := w.heap.size + 1) (by unfold FromB; omega) [.slice (some ⟨g0, 0, none⟩) d.clients.length d.clients.length, .slice (some ⟨g1, 0, none⟩) d.scanners.length d.scanners.length, .slice (some ⟨g2, 0, none⟩) d.given.length d.given.length, .slice (some ⟨g3, 0, none⟩) d.scanned.length d.scanned.length, .slice (some ⟨g4, 0, none⟩) d.items.length d.items.length, .slice (some ⟨g5, 0, none⟩) d.met.length d.met.length] 0 y5)
  replace T3 := T3.keep (Keep.setCells (g := w.heap.size + 1) (by unfold FromB; omega) [.slice (some ⟨g0, 0, none⟩) d.clients.length d.clients.length, .slice (some ⟨g1, 0, none⟩) d.scanners.length d.scanners.length, .slice (some ⟨g2, 0, none⟩) d.given.length d.given.length, .slice (some ⟨g3, 0, none⟩) d.scanned.length d.scanned.length, .slice (some ⟨g4, 0, none⟩) d.items.length d.items.length, .slice (some ⟨g5, 0, none⟩) d.met.length d.met.length] 0 y5)
  replace T4 := SlN.keep ItemD.steady T4 (Keep.setCells (g := w.heap.size + 1) (by unfold FromB; omega) [.slice (some ⟨g0, 0, none⟩) d.clients.length d.clients.length, .slice (some ⟨g1, 0, none⟩) d.scanners.length d.scanners.length, .slice (some ⟨g2, 0, none⟩) d.given.length d.given.length, .slice (some ⟨g3, 0, none⟩) d.scanned.length d.scanned.length, .slice (some ⟨g4, 0, none⟩) d.items.length d.items.length, .slice (some ⟨g5, 0, none⟩) d.met.length d.met.length] 0 y5)
  replace T5 := T5.keep (Keep.setCells (g := w.heap.size + 1) (by unfold FromB; omega) [.slice (some ⟨g0, 0, none⟩) d.clients.length d.clients.length, .slice (some ⟨g1, 0, none⟩) d.scanners.length d.scanners.length, .slice (some ⟨g2, 0, none⟩) d.given.length d.given.length, .slice (some ⟨g3, 0, none⟩) d.scanned.length d.scanned.length, .slice (some ⟨g4, 0, none⟩) d.items.length d.items.length, .slice (some ⟨g5, 0, none⟩) d.met.length d.met.length] 0 y5)
  change bodyPost _ _ _ _ _ (y5.setCells (w.heap.size + 1) 0 [.slice (some ⟨g0, 0, none⟩) d.clients.length d.clients.length, .slice (some ⟨g1, 0, none⟩) d.scanners.length d.scanners.length, .slice (some ⟨g2, 0, none⟩) d.given.length d.given.length, .slice (some ⟨g3, 0, none⟩) d.scanned.length d.scanned.length, .slice (some ⟨g4, 0, none⟩) d.items.length d.items.length, .slice (some ⟨g5, 0, none⟩) d.met.length d.met.length])
  clear r0 f0 r1 f1 r2 f2 B0 B1 B2 he
  generalize y5.setCells (w.heap.size + 1) 0 [.slice (some ⟨g0, 0, none⟩) d.clients.length d.clients.length, .slice (some ⟨g1, 0, none⟩) d.scanners.length d.scanners.length, .slice (some ⟨g2, 0, none⟩) d.given.length d.given.length, .slice (some ⟨g3, 0, none⟩) d.scanned.length d.scanned.length, .slice (some ⟨g4, 0, none⟩) d.items.length d.items.length, .slice (some ⟨g5, 0, none⟩) d.met.length d.met.length] = z at *
  exact ret_row rfl rfl E1 Try.underlying125 rfl (by kernel_rfl) rfl ⟨[.slice (some ⟨g0, 0, none⟩) d.clients.length d.clients.length, .slice (some ⟨g1, 0, none⟩) d.scanners.length d.scanners.length, .slice (some ⟨g2, 0, none⟩) d.given.length d.given.length, .slice (some ⟨g3, 0, none⟩) d.scanned.length d.scanned.length, .slice (some ⟨g4, 0, none⟩) d.items.length d.items.length, .slice (some ⟨g5, 0, none⟩) d.met.length d.met.length], rfl, ⟨_, _, _, _, _, _, _, _, _, _, _, _, rfl, SlN.mono ClientD.steady T0 (fun b hb => by unfold FromB at *; omega), SlN.mono ScannerD.steady T1 (fun b hb => by unfold FromB at *; omega), T2.mono (fun b hb => by unfold FromB at *; omega), T3.mono (fun b hb => by unfold FromB at *; omega), SlN.mono ItemD.steady T4 (fun b hb => by unfold FromB at *; omega), T5.mono (fun b hb => by unfold FromB at *; omega)⟩, he_⟩
set_option maxHeartbeats 2000000 in
set_option maxRecDepth 100000 in
theorem eqDark_same (d : DarkD) (A0 : Option Addr) (c0 : Nat) (A1 : Option Addr) (c1 : Nat) (A2 : Option Addr) (c2 : Nat) (A3 : Option Addr) (c3 : Nat) (A4 : Option Addr) (c4 : Nat) (A5 : Option Addr) (c5 : Nat) (B0 : Option Addr) (e0 : Nat) (B1 : Option Addr) (e1 : Nat) (B2 : Option Addr) (e2 : Nat) (B3 : Option Addr) (e3 : Nat) (B4 : Option Addr) (e4 : Nat) (B5 : Option Addr) (e5 : Nat) (w : World) (s0 : SlN AnyB ClientD.In 8 w A0 d.clients c0) (s1 : SlN AnyB ScannerD.In 10 w A1 d.scanners c1) (s2 : SlF AnyB GivenD.cells 7 w A2 d.given c2) (s3 : SlF AnyB GivenD.cells 7 w A3 d.scanned c3) (s4 : SlN AnyB ItemD.In 22 w A4 d.items c4) (s5 : SlF AnyB MeetingD.cells 4 w A5 d.met c5) (t0 : SlN AnyB ClientD.In 8 w B0 d.clients e0) (t1 : SlN AnyB ScannerD.In 10 w B1 d.scanners e1) (t2 : SlF AnyB GivenD.cells 7 w B2 d.given e2) (t3 : SlF AnyB GivenD.cells 7 w B3 d.scanned e3) (t4 : SlN AnyB ItemD.In 22 w B4 d.items e4) (t5 : SlF AnyB MeetingD.cells 4 w B5 d.met e5) (hf : ∀ n ∈ d.lens, n ≤ 1048576) :
    Calls Try.prog 69 #[.agg #[.slice A0 d.clients.length c0, .slice A1 d.scanners.length c1, .slice A2 d.given.length c2, .slice A3 d.scanned.length c3, .slice A4 d.items.length c4, .slice A5 d.met.length c5], .agg #[.slice B0 d.clients.length e0, .slice B1 d.scanners.length e1, .slice B2 d.given.length e2, .slice B3 d.scanned.length e3, .slice B4 d.items.length e4, .slice B5 d.met.length e5]] w fun e w' => e = .returned (.bool true) ∧ Ext w w' := by
  have l_clients : d.clients.length ≤ 1048576 := hf _ (by simp [DarkD.lens])
  have L_clients : Hid (∀ x ∈ d.clients, ∀ n ∈ x.lens, n ≤ 1048576) := Lib.hid (fun x hx n hn => hf n (by simp only [DarkD.lens, List.mem_append, List.mem_cons, List.mem_flatMap]; simp only [show (∃ a, a ∈ d.clients ∧ n ∈ a.lens) from ⟨x, hx, hn⟩]; simp))
  have l_scanners : d.scanners.length ≤ 1048576 := hf _ (by simp [DarkD.lens])
  have L_scanners : Hid (∀ x ∈ d.scanners, ∀ n ∈ x.lens, n ≤ 1048576) := Lib.hid (fun x hx n hn => hf n (by simp only [DarkD.lens, List.mem_append, List.mem_cons, List.mem_flatMap]; simp only [show (∃ a, a ∈ d.scanners ∧ n ∈ a.lens) from ⟨x, hx, hn⟩]; simp))
  have l_given : d.given.length ≤ 1048576 := hf _ (by simp [DarkD.lens])
  have l_scanned : d.scanned.length ≤ 1048576 := hf _ (by simp [DarkD.lens])
  have l_items : d.items.length ≤ 1048576 := hf _ (by simp [DarkD.lens])
  have L_items : Hid (∀ x ∈ d.items, ∀ n ∈ x.lens, n ≤ 1048576) := Lib.hid (fun x hx n hn => hf n (by simp only [DarkD.lens, List.mem_append, List.mem_cons, List.mem_flatMap]; simp only [show (∃ a, a ∈ d.items ∧ n ∈ a.lens) from ⟨x, hx, hn⟩]; simp))
  have l_met : d.met.length ≤ 1048576 := hf _ (by simp [DarkD.lens])
  have S0 := Lib.hid s0; have T0 := Lib.hid t0; clear s0 t0
  have S1 := Lib.hid s1; have T1 := Lib.hid t1; clear s1 t1
  have S2 := Lib.hid s2; have T2 := Lib.hid t2; clear s2 t2
  have S3 := Lib.hid s3; have T3 := Lib.hid t3; clear s3 t3
  have S4 := Lib.hid s4; have T4 := Lib.hid t4; clear s4 t4
  have S5 := Lib.hid s5; have T5 := Lib.hid t5; clear s5 t5
  clear hf
  obtain ⟨K0, K1, he⟩ := two_new w #[.slice A0 d.clients.length c0, .slice A1 d.scanners.length c1, .slice A2 d.given.length c2, .slice A3 d.scanned.length c3, .slice A4 d.items.length c4, .slice A5 d.met.length c5] #[.slice B0 d.clients.length e0, .slice B1 d.scanners.length e1, .slice B2 d.given.length e2, .slice B3 d.scanned.length e3, .slice B4 d.items.length e4, .slice B5 d.met.length e5] 125 125
  go_enter Try.func69, Try.ntmps69
  obtain ⟨r0, f0⟩ := K0.rules
  obtain ⟨r1, f1⟩ := K1.rules
  go_wp2_with fail
  obtain ⟨g, hg⟩ : ∃ g, g = w.heap.size := ⟨_, rfl⟩
  rw [← hg] at K0 K1
  rw [← hg]
  clear hg r0 f0 r1 f1
  refine (eqClientS_same A0 B0 c0 e0 d.clients _ (SlN.ext ClientD.steady S0.out he) (SlN.ext ClientD.steady T0.out he) l_clients L_clients.out).mono ?_
  rintro e x0 ⟨rfl, hx⟩
  replace K0 := K0.ext hx; replace K1 := K1.ext hx; replace he := he.next hx; clear hx
  obtain ⟨r0, f0⟩ := K0.rules
  obtain ⟨r1, f1⟩ := K1.rules
  go_wp2_with fail
  clear r0 f0 r1 f1
  refine (eqScannerS_same A1 B1 c1 e1 d.scanners _ (SlN.ext ScannerD.steady S1.out he) (SlN.ext ScannerD.steady T1.out he) l_scanners L_scanners.out).mono ?_
  rintro e x1 ⟨rfl, hx⟩
  replace K0 := K0.ext hx; replace K1 := K1.ext hx; replace he := he.next hx; clear hx
  obtain ⟨r0, f0⟩ := K0.rules
  obtain ⟨r1, f1⟩ := K1.rules
  go_wp2_with fail
  clear r0 f0 r1 f1
  refine (eqGivenS_same A2 B2 c2 e2 d.given _ (S2.out.ext he).reads (T2.out.ext he).reads l_given).mono ?_
  rintro e x2 ⟨rfl, hx⟩
  replace K0 := K0.ext hx; replace K1 := K1.ext hx; replace he := he.next hx; clear hx
  obtain ⟨r0, f0⟩ := K0.rules
  obtain ⟨r1, f1⟩ := K1.rules
  go_wp2_with fail
  clear r0 f0 r1 f1
  refine (eqGivenS_same A3 B3 c3 e3 d.scanned _ (S3.out.ext he).reads (T3.out.ext he).reads l_scanned).mono ?_
  rintro e x3 ⟨rfl, hx⟩
  replace K0 := K0.ext hx; replace K1 := K1.ext hx; replace he := he.next hx; clear hx
  obtain ⟨r0, f0⟩ := K0.rules
  obtain ⟨r1, f1⟩ := K1.rules
  go_wp2_with fail
  clear r0 f0 r1 f1
  refine (eqItemS_same A4 B4 c4 e4 d.items _ (SlN.ext ItemD.steady S4.out he) (SlN.ext ItemD.steady T4.out he) l_items L_items.out).mono ?_
  rintro e x4 ⟨rfl, hx⟩
  replace K0 := K0.ext hx; replace K1 := K1.ext hx; replace he := he.next hx; clear hx
  obtain ⟨r0, f0⟩ := K0.rules
  obtain ⟨r1, f1⟩ := K1.rules
  go_wp2_with fail
  clear r0 f0 r1 f1
  refine (eqMeetingS_same A5 B5 c5 e5 d.met _ (S5.out.ext he).reads (T5.out.ext he).reads l_met).mono ?_
  rintro e x5 ⟨rfl, hx⟩
  replace K0 := K0.ext hx; replace K1 := K1.ext hx; replace he := he.next hx; clear hx
  obtain ⟨r0, f0⟩ := K0.rules
  obtain ⟨r1, f1⟩ := K1.rules
  go_wp2_with fail
  clear r0 f0 r1 f1
  go_ret
  exact ⟨rfl, he⟩
end Go.Proofs.Ytcpfgldcijkhlaa
