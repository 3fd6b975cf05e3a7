/-
  What Scanner is in memory; the laws' own functions at it: walks. Written by program (gen_nest.py). No condition.
-/
import Derived.Test.YtkcjhfidgnbdiaaNest
import Derived.Test.YtkcjhfidgnbdiaaNClient
import Derived.Test.YtkcjhfidgnbdiaaCliNil
import Derived.StillTailTactics
namespace Go.Proofs.Ytkcjhfidgnbdiaa
set_option linter.unusedSimpArgs false
open Go.RowKit
set_option linter.unusedVariables false

structure ScannerD where
  client : ClientD
  leaf : Int
  topics : List CursorD
def ScannerD.In : Rep ScannerD := fun p w cs d => ∃ (A0 : Option Addr) (c0 : Nat) (A1 : Option Addr) (c1 : Nat), cs = [.int .i64 d.client.width, .string d.client.name, .int .i64 d.client.head.number, .int .i64 d.client.head.size, .string d.client.head.root, .int .i64 d.client.head.taken, .string d.client.head.takenRoot, .slice A0 d.client.cursors.length c0, .int .i64 d.leaf, .slice A1 d.topics.length c1] ∧ SlF p CursorD.cells 3 w A0 d.client.cursors c0 ∧ SlF p CursorD.cells 3 w A1 d.topics c1
theorem ScannerD.steady : Steady ScannerD.In := ⟨fun h k => by obtain ⟨A0, c0, A1, c1, rfl, s0, s1⟩ := h; exact ⟨_, _, _, _, rfl, s0.keep k, s1.keep k⟩, fun h k => by obtain ⟨A0, c0, A1, c1, rfl, s0, s1⟩ := h; exact ⟨_, _, _, _, rfl, s0.mono k, s1.mono k⟩⟩
theorem ScannerD.in_len {p : Nat → Prop} {w : World} {cs : List Value} {d : ScannerD} (h : ScannerD.In p w cs d) : cs.length = 10 := by obtain ⟨A0, c0, A1, c1, rfl, _⟩ := h; rfl
def ScannerD.Ok (d : ScannerD) : Prop := d.client.Ok ∧ (Lit.int .i64 d.leaf).wf = true ∧ (∀ x ∈ d.topics, x.Ok)
def ScannerD.lens (d : ScannerD) : List Nat := d.client.lens ++ ((d.topics.length :: d.topics.flatMap CursorD.lens) ++ [])
set_option maxHeartbeats 2000000 in
set_option maxRecDepth 100000 in
theorem eqScanner_same (d : ScannerD) (A0 : Option Addr) (c0 : Nat) (A1 : Option Addr) (c1 : Nat) (B0 : Option Addr) (e0 : Nat) (B1 : Option Addr) (e1 : Nat) (w : World) (s0 : SlF AnyB CursorD.cells 3 w A0 d.client.cursors c0) (s1 : SlF AnyB CursorD.cells 3 w A1 d.topics c1) (t0 : SlF AnyB CursorD.cells 3 w B0 d.client.cursors e0) (t1 : SlF AnyB CursorD.cells 3 w B1 d.topics e1) (hf : ∀ n ∈ d.lens, n ≤ 1048576) :
    Calls Try.prog 84 #[.agg #[.int .i64 d.client.width, .string d.client.name, .int .i64 d.client.head.number, .int .i64 d.client.head.size, .string d.client.head.root, .int .i64 d.client.head.taken, .string d.client.head.takenRoot, .slice A0 d.client.cursors.length c0, .int .i64 d.leaf, .slice A1 d.topics.length c1], .agg #[.int .i64 d.client.width, .string d.client.name, .int .i64 d.client.head.number, .int .i64 d.client.head.size, .string d.client.head.root, .int .i64 d.client.head.taken, .string d.client.head.takenRoot, .slice B0 d.client.cursors.length e0, .int .i64 d.leaf, .slice B1 d.topics.length e1]] w fun e w' => e = .returned (.bool true) ∧ Ext w w' := by
  have l_client : ∀ n ∈ d.client.lens, n ≤ 1048576 := fun n hn => hf n (by simp only [ScannerD.lens, List.mem_append]; simp [hn])
  have l_topics : d.topics.length ≤ 1048576 := hf _ (by simp [ScannerD.lens])
  have S0 := Lib.hid s0; have T0 := Lib.hid t0; clear s0 t0
  have S1 := Lib.hid s1; have T1 := Lib.hid t1; clear s1 t1
  clear hf
  obtain ⟨K0, K1, he⟩ := two_new w #[.int .i64 d.client.width, .string d.client.name, .int .i64 d.client.head.number, .int .i64 d.client.head.size, .string d.client.head.root, .int .i64 d.client.head.taken, .string d.client.head.takenRoot, .slice A0 d.client.cursors.length c0, .int .i64 d.leaf, .slice A1 d.topics.length c1] #[.int .i64 d.client.width, .string d.client.name, .int .i64 d.client.head.number, .int .i64 d.client.head.size, .string d.client.head.root, .int .i64 d.client.head.taken, .string d.client.head.takenRoot, .slice B0 d.client.cursors.length e0, .int .i64 d.leaf, .slice B1 d.topics.length e1] 81 81
  go_enter Try.func84, Try.ntmps84
  obtain ⟨r0, f0⟩ := K0.rules
  obtain ⟨r1, f1⟩ := K1.rules
  go_wp2_with fail
  obtain ⟨g, hg⟩ : ∃ g, g = w.heap.size := ⟨_, rfl⟩
  rw [← hg] at K0 K1
  rw [← hg]
  clear hg r0 f0 r1 f1
  refine (eqClient_same d.client A0 c0 B0 e0 _ (S0.out.ext he) (T0.out.ext he) l_client).mono ?_
  rintro e x0 ⟨rfl, hx⟩
  replace K0 := K0.ext hx; replace K1 := K1.ext hx; replace he := he.next hx; clear hx
  obtain ⟨r0, f0⟩ := K0.rules
  obtain ⟨r1, f1⟩ := K1.rules
  go_wp2_with fail
  clear r0 f0 r1 f1
  refine (eqCursorS_same A1 B1 c1 e1 d.topics _ (S1.out.ext he).reads (T1.out.ext he).reads l_topics).mono ?_
  rintro e x2 ⟨rfl, hx⟩
  replace K0 := K0.ext hx; replace K1 := K1.ext hx; replace he := he.next hx; clear hx
  obtain ⟨r0, f0⟩ := K0.rules
  obtain ⟨r1, f1⟩ := K1.rules
  go_wp2_with fail
  clear r0 f0 r1 f1
  go_ret
  exact ⟨rfl, he⟩
set_option maxHeartbeats 2000000 in
set_option maxRecDepth 100000 in
theorem eqScannerS_same (A A' : Option Addr) (c c' : Nat) (l : List ScannerD) (w : World) (hr : SlN AnyB ScannerD.In 10 w A l c) (hr' : SlN AnyB ScannerD.In 10 w A' l c') (hl : l.length ≤ 1048576) (hf : ∀ x ∈ l, ∀ n ∈ x.lens, n ≤ 1048576) :
    Calls Try.prog 47 #[.slice A l.length c, .slice A' l.length c'] w fun e w' => e = .returned (.bool true) ∧ Ext w w' := by
  have Hr := Lib.hid hr; clear hr
  have Hr2 := Lib.hid hr'; clear hr'
  have Hf := Lib.hid hf; clear hf
  go_enter Try.func47, Try.ntmps47
  go_wp2_with fail
  go_loopw [5] (fun i wr => ∃ (k : Nat), k ≤ l.length ∧ i = .int .i64 k ∧ Ext w wr) (fun i _ => l.length - (intOf i).toNat)
  case atStart => exact ⟨0, Nat.zero_le _, rfl, Below.refl _ _⟩
  case round =>
    obtain ⟨k, hk, rfl, he⟩ := hrel
    by_cases hlt : k < l.length
    · obtain ⟨b, off, cs, rfl, hb, hcl, hR, hc⟩ := (SlN.ext ScannerD.steady Hr.out he).at_ (k := k) hlt
      obtain ⟨b', off', cs', rfl, hb', hcl', hR', hc'⟩ := (SlN.ext ScannerD.steady Hr2.out he).at_ (k := k) hlt
      obtain ⟨d, hd⟩ : ∃ d, d = l[k] := ⟨_, rfl⟩
      have Hfd := Lib.hid (Hf.out _ (List.getElem_mem hlt))
      rw [← hd] at hR hR' Hfd
      obtain ⟨A0, c0, A1, c1, rfl, s0, s1⟩ := hR
      obtain ⟨B0, e0, B1, e1, rfl, t0, t1⟩ := hR'
      have Y0 := cells_range (n := 10) rfl hc
      have U0 := cells_range (n := 10) rfl hc'
      clear hc hc' hd hcl hcl'
      have S0 := Lib.hid s0; have T0 := Lib.hid t0; clear s0 t0
      have S1 := Lib.hid s1; have T1 := Lib.hid t1; clear s1 t1
      have he0 : Ext wr wr.drew := ⟨rfl, rfl, rfl, Nat.le_refl _, fun _ _ => rfl⟩
      have Y1 := Lib.hid (range_ext Y0 he0 hb); have U1 := Lib.hid (range_ext U0 he0 hb')
      clear Y0 U0
      go_wp2_with fail
      refine wp_region_still_tail 8 (by kernel_rfl) (by kernel_rfl) ?_
      simp only [List.take_succ_cons, List.take_zero, List.drop_succ_cons, List.drop_zero]
      still_step; still_step; still_step
      refine wpStill_load_mid (by rfl) 81 _ rfl b (off + k * 10) rfl [.int .i64 d.client.width, .string d.client.name, .int .i64 d.client.head.number, .int .i64 d.client.head.size, .string d.client.head.root, .int .i64 d.client.head.taken, .string d.client.head.takenRoot, .slice A0 d.client.cursors.length c0, .int .i64 d.leaf, .slice A1 d.topics.length c1] _ Y1.out Try.underlying81 rfl (by kernel_rfl) ?_
      simp only [Act.put, List.setIfInBounds_toArray, List.set_cons_zero, List.set_cons_succ]
      still_step; still_step; still_step
      refine wpStill_load_mid (by rfl) 81 _ rfl b' (off' + k * 10) rfl [.int .i64 d.client.width, .string d.client.name, .int .i64 d.client.head.number, .int .i64 d.client.head.size, .string d.client.head.root, .int .i64 d.client.head.taken, .string d.client.head.takenRoot, .slice B0 d.client.cursors.length e0, .int .i64 d.leaf, .slice B1 d.topics.length e1] _ U1.out Try.underlying81 rfl (by kernel_rfl) ?_
      simp only [Act.put, List.setIfInBounds_toArray, List.set_cons_zero, List.set_cons_succ]
      refine wpStill_nil ?_
      change wpList _ _ _ _ _ wr.drew
      generalize hw : wr.drew = w2 at *
      have he2 : Ext w w2 := he.next he0
      clear hw he
      go_wp2_with fail
      refine (eqScanner_same d A0 c0 A1 c1 B0 e0 B1 e1 _ (S0.out.ext he0) (S1.out.ext he0) (T0.out.ext he0) (T1.out.ext he0) Hfd.out).mono ?_
      rintro e w1 ⟨rfl, h1⟩
      replace he2 := he2.next h1; clear h1 he0 Y1 U1
      go_wp2_with fail
      go_roundw
      case rel => exact ⟨k + 1, by omega, by go_num, he2⟩
      case measure => simp [intOf]; omega
    · go_wp2_with fail
      go_ret
      exact ⟨rfl, he⟩
end Go.Proofs.Ytkcjhfidgnbdiaa
