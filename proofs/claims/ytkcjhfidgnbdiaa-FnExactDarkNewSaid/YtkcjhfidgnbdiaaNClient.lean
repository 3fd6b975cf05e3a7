/-
  What Client is in memory; the laws' own functions at it: walks. Written by program (gen_nest.py). No condition.
-/
import Derived.Test.YtkcjhfidgnbdiaaNest
import Derived.Test.YtkcjhfidgnbdiaaCliNil
import Derived.StillTailTactics
namespace Go.Proofs.Ytkcjhfidgnbdiaa
set_option linter.unusedSimpArgs false
open Go.RowKit
set_option linter.unusedVariables false

structure ClientD where
  width : Int
  name : ByteArray
  head : HeadD
  cursors : List CursorD
def ClientD.In : Rep ClientD := fun p w cs d => ∃ (A0 : Option Addr) (c0 : Nat), cs = [.int .i64 d.width, .string d.name, .int .i64 d.head.number, .int .i64 d.head.size, .string d.head.root, .int .i64 d.head.taken, .string d.head.takenRoot, .slice A0 d.cursors.length c0] ∧ SlF p CursorD.cells 3 w A0 d.cursors c0
theorem ClientD.steady : Steady ClientD.In := ⟨fun h k => by obtain ⟨A0, c0, rfl, s0⟩ := h; exact ⟨_, _, rfl, s0.keep k⟩, fun h k => by obtain ⟨A0, c0, rfl, s0⟩ := h; exact ⟨_, _, rfl, s0.mono k⟩⟩
theorem ClientD.in_len {p : Nat → Prop} {w : World} {cs : List Value} {d : ClientD} (h : ClientD.In p w cs d) : cs.length = 8 := by obtain ⟨A0, c0, rfl, _⟩ := h; rfl
def ClientD.Ok (d : ClientD) : Prop := (Lit.int .i64 d.width).wf = true ∧ d.name.size ≤ maxLen ∧ d.head.Ok ∧ (∀ x ∈ d.cursors, x.Ok)
def ClientD.lens (d : ClientD) : List Nat := [d.name.size] ++ (d.head.lens ++ ((d.cursors.length :: d.cursors.flatMap CursorD.lens) ++ []))
set_option maxHeartbeats 2000000 in
set_option maxRecDepth 100000 in
theorem eqClient_same (d : ClientD) (A0 : Option Addr) (c0 : Nat) (B0 : Option Addr) (e0 : Nat) (w : World) (s0 : SlF AnyB CursorD.cells 3 w A0 d.cursors c0) (t0 : SlF AnyB CursorD.cells 3 w B0 d.cursors e0) (hf : ∀ n ∈ d.lens, n ≤ 1048576) :
    Calls Try.prog 83 #[.agg #[.int .i64 d.width, .string d.name, .int .i64 d.head.number, .int .i64 d.head.size, .string d.head.root, .int .i64 d.head.taken, .string d.head.takenRoot, .slice A0 d.cursors.length c0], .agg #[.int .i64 d.width, .string d.name, .int .i64 d.head.number, .int .i64 d.head.size, .string d.head.root, .int .i64 d.head.taken, .string d.head.takenRoot, .slice B0 d.cursors.length e0]] w fun e w' => e = .returned (.bool true) ∧ Ext w w' := by
  have l_cursors : d.cursors.length ≤ 1048576 := hf _ (by simp [ClientD.lens])
  have S0 := Lib.hid s0; have T0 := Lib.hid t0; clear s0 t0
  clear hf
  obtain ⟨K0, K1, he⟩ := two_new w #[.int .i64 d.width, .string d.name, .int .i64 d.head.number, .int .i64 d.head.size, .string d.head.root, .int .i64 d.head.taken, .string d.head.takenRoot, .slice A0 d.cursors.length c0] #[.int .i64 d.width, .string d.name, .int .i64 d.head.number, .int .i64 d.head.size, .string d.head.root, .int .i64 d.head.taken, .string d.head.takenRoot, .slice B0 d.cursors.length e0] 77 77
  go_enter Try.func83, Try.ntmps83
  obtain ⟨r0, f0⟩ := K0.rules
  obtain ⟨r1, f1⟩ := K1.rules
  go_wp2_with fail
  obtain ⟨g, hg⟩ : ∃ g, g = w.heap.size := ⟨_, rfl⟩
  rw [← hg] at K0 K1
  rw [← hg]
  clear hg r0 f0 r1 f1
  refine (eqHead_same d.head _).mono ?_
  rintro e x2 ⟨rfl, hx⟩
  replace K0 := K0.ext hx; replace K1 := K1.ext hx; replace he := he.next hx; clear hx
  obtain ⟨r0, f0⟩ := K0.rules
  obtain ⟨r1, f1⟩ := K1.rules
  go_wp2_with fail
  clear r0 f0 r1 f1
  refine (eqCursorS_same A0 B0 c0 e0 d.cursors _ (S0.out.ext he).reads (T0.out.ext he).reads l_cursors).mono ?_
  rintro e x3 ⟨rfl, hx⟩
  replace K0 := K0.ext hx; replace K1 := K1.ext hx; replace he := he.next hx; clear hx
  obtain ⟨r0, f0⟩ := K0.rules
  obtain ⟨r1, f1⟩ := K1.rules
  go_wp2_with fail
  clear r0 f0 r1 f1
  go_ret
  exact ⟨rfl, he⟩
set_option maxHeartbeats 2000000 in
set_option maxRecDepth 100000 in
theorem eqClientS_same (A A' : Option Addr) (c c' : Nat) (l : List ClientD) (w : World) (hr : SlN AnyB ClientD.In 8 w A l c) (hr' : SlN AnyB ClientD.In 8 w A' l c') (hl : l.length ≤ 1048576) (hf : ∀ x ∈ l, ∀ n ∈ x.lens, n ≤ 1048576) :
    Calls Try.prog 46 #[.slice A l.length c, .slice A' l.length c'] w fun e w' => e = .returned (.bool true) ∧ Ext w w' := by
  have Hr := Lib.hid hr; clear hr
  have Hr2 := Lib.hid hr'; clear hr'
  have Hf := Lib.hid hf; clear hf
  go_enter Try.func46, Try.ntmps46
  go_wp2_with fail
  go_loopw [5] (fun i wr => ∃ (k : Nat), k ≤ l.length ∧ i = .int .i64 k ∧ Ext w wr) (fun i _ => l.length - (intOf i).toNat)
  case atStart => exact ⟨0, Nat.zero_le _, rfl, Below.refl _ _⟩
  case round =>
    obtain ⟨k, hk, rfl, he⟩ := hrel
    by_cases hlt : k < l.length
    · obtain ⟨b, off, cs, rfl, hb, hcl, hR, hc⟩ := (SlN.ext ClientD.steady Hr.out he).at_ (k := k) hlt
      obtain ⟨b', off', cs', rfl, hb', hcl', hR', hc'⟩ := (SlN.ext ClientD.steady Hr2.out he).at_ (k := k) hlt
      obtain ⟨d, hd⟩ : ∃ d, d = l[k] := ⟨_, rfl⟩
      have Hfd := Lib.hid (Hf.out _ (List.getElem_mem hlt))
      rw [← hd] at hR hR' Hfd
      obtain ⟨A0, c0, rfl, s0⟩ := hR
      obtain ⟨B0, e0, rfl, t0⟩ := hR'
      have y0 := hc 0 _ (by decide) rfl
      have y1 := hc 1 _ (by decide) rfl
      have y2 := hc 2 _ (by decide) rfl
      have y3 := hc 3 _ (by decide) rfl
      have y4 := hc 4 _ (by decide) rfl
      have y5 := hc 5 _ (by decide) rfl
      have y6 := hc 6 _ (by decide) rfl
      have y7 := hc 7 _ (by decide) rfl
      have u0 := hc' 0 _ (by decide) rfl
      have u1 := hc' 1 _ (by decide) rfl
      have u2 := hc' 2 _ (by decide) rfl
      have u3 := hc' 3 _ (by decide) rfl
      have u4 := hc' 4 _ (by decide) rfl
      have u5 := hc' 5 _ (by decide) rfl
      have u6 := hc' 6 _ (by decide) rfl
      have u7 := hc' 7 _ (by decide) rfl
      rw [Nat.add_zero] at y0 u0
      clear hc hc' hd hcl hcl'
      have S0 := Lib.hid s0; have T0 := Lib.hid t0; clear s0 t0
      go_wp2_with fail
      go_still_tail 8, (by kernel_rfl)
      have he0 : Ext wr wr.drew := ⟨rfl, rfl, rfl, Nat.le_refl _, fun _ _ => rfl⟩
      change wpList _ _ _ _ _ wr.drew
      generalize hw : wr.drew = w2 at *
      have he2 : Ext w w2 := he.next he0
      clear hw he
      go_wp2_with fail
      refine (eqClient_same d A0 c0 B0 e0 _ (S0.out.ext he0) (T0.out.ext he0) Hfd.out).mono ?_
      rintro e w1 ⟨rfl, h1⟩
      replace he2 := he2.next h1; clear h1 he0 y0 y1 y2 y3 y4 y5 y6 y7 u0 u1 u2 u3 u4 u5 u6 u7
      go_wp2_with fail
      go_roundw
      case rel => exact ⟨k + 1, by omega, by go_num, he2⟩
      case measure => simp [intOf]; omega
    · go_wp2_with fail
      go_ret
      exact ⟨rfl, he⟩
end Go.Proofs.Ytkcjhfidgnbdiaa
