/-
  ClientOk: walks. Written by program (gen_cliok.py). No condition.
-/
import Derived.Test.YtcpfgldcijkhlaaHeadOps
import Derived.Test.YtcpfgldcijkhlaaCursors
namespace Go.Proofs.Ytcpfgldcijkhlaa
open Go.RowKit
set_option linter.unusedVariables false


def clientOk (n : Int) (s : ByteArray) (h : HeadD) (l : List CursorD) : Bool := inR n 1 32 && nameOk s && headOk n h && decide (l.length ≤ 8) && cursB none l h.size
set_option maxHeartbeats 2000000 in
theorem specClientOk_any (n : Int) (s : ByteArray) (h : HeadD) (A : Option Addr) (c : Nat) (l : List CursorD) (w : World) (hs : s.size ≤ maxLen) (hr : ReadsL w w.heap.size CursorD.cells 3 A l) (hok : ∀ d ∈ l, d.Ok) (hl : l.length ≤ 1048576) :
    Calls Try.prog 122 #[.agg #[.int .i64 n, .string s, .int .i64 h.number, .int .i64 h.size, .string h.root, .int .i64 h.taken, .string h.takenRoot, .slice A l.length c]] w fun e w' => e = .returned (.bool (clientOk n s h l)) ∧ Ext w w' := by
  have Hok := Lib.hid hok; clear hok
  have Hr := Lib.hid hr; clear hr
  have K0 := Blk.new w 49 #[.int .i64 n, .string s, .int .i64 h.number, .int .i64 h.size, .string h.root, .int .i64 h.taken, .string h.takenRoot, .slice A l.length c]
  have he := Ext.new (Below.refl w.heap.size w) (.cells #[.int .i64 n, .string s, .int .i64 h.number, .int .i64 h.size, .string h.root, .int .i64 h.taken, .string h.takenRoot, .slice A l.length c] 49)
  obtain ⟨r0, m0⟩ := K0.rules
  cases b1 : inR n 1 32
  · have E := Lib.hid (show clientOk n s h l = false by simp [clientOk, b1])
    go_enter Try.func122, Try.ntmps122
    go_wp2_with (first | (go_at_call 103; refine (l02Width_any _ _).mono ?_; rintro e w' ⟨rfl, rfl⟩) | (go_at_call 173; refine (specNameOk_any _ _ hs).mono ?_; rintro e w' ⟨rfl, rfl⟩))
    go_ret
    exact ⟨ret_bool E.out.symm, he⟩
  cases b2 : nameOk s
  · have E := Lib.hid (show clientOk n s h l = false by simp [clientOk, b2])
    go_enter Try.func122, Try.ntmps122
    go_wp2_with (first | (go_at_call 103; refine (l02Width_any _ _).mono ?_; rintro e w' ⟨rfl, rfl⟩) | (go_at_call 173; refine (specNameOk_any _ _ hs).mono ?_; rintro e w' ⟨rfl, rfl⟩))
    go_ret
    exact ⟨ret_bool E.out.symm, he⟩
  cases b3 : headOk n h
  · have E := Lib.hid (show clientOk n s h l = false by simp [clientOk, b3])
    go_enter Try.func122, Try.ntmps122
    go_wp2_with (first | (go_at_call 103; refine (l02Width_any _ _).mono ?_; rintro e w' ⟨rfl, rfl⟩) | (go_at_call 173; refine (specNameOk_any _ _ hs).mono ?_; rintro e w' ⟨rfl, rfl⟩))
    obtain ⟨g, hg⟩ : ∃ g, g = w.heap.size := ⟨_, rfl⟩
    rw [← hg] at K0
    rw [← hg]
    clear hg r0 m0
    refine (specHeadOk_any n h _).mono ?_
    rintro e w1 ⟨rfl, h1⟩
    replace he := he.next h1; replace K0 := K0.ext h1; clear h1
    obtain ⟨r0, m0⟩ := K0.rules
    go_wp2_with fail
    go_ret
    exact ⟨ret_bool E.out.symm, he⟩
  by_cases b4 : 8 < l.length
  · have E := Lib.hid (show clientOk n s h l = false by simp [clientOk]; omega)
    go_enter Try.func122, Try.ntmps122
    go_wp2_with (first | (go_at_call 103; refine (l02Width_any _ _).mono ?_; rintro e w' ⟨rfl, rfl⟩) | (go_at_call 173; refine (specNameOk_any _ _ hs).mono ?_; rintro e w' ⟨rfl, rfl⟩))
    obtain ⟨g, hg⟩ : ∃ g, g = w.heap.size := ⟨_, rfl⟩
    rw [← hg] at K0
    rw [← hg]
    clear hg r0 m0
    refine (specHeadOk_any n h _).mono ?_
    rintro e w1 ⟨rfl, h1⟩
    replace he := he.next h1; replace K0 := K0.ext h1; clear h1
    obtain ⟨r0, m0⟩ := K0.rules
    go_wp2_with fail
    go_ret
    exact ⟨ret_bool E.out.symm, he⟩
  have E := Lib.hid (show clientOk n s h l = cursB none l h.size by simp only [clientOk, b1, b2, b3, Bool.true_and]; rw [show decide (l.length ≤ 8) = true from decide_eq_true (by omega), Bool.true_and])
  go_enter Try.func122, Try.ntmps122
  go_wp2_with (first | (go_at_call 103; refine (l02Width_any _ _).mono ?_; rintro e w' ⟨rfl, rfl⟩) | (go_at_call 173; refine (specNameOk_any _ _ hs).mono ?_; rintro e w' ⟨rfl, rfl⟩))
  obtain ⟨g, hg⟩ : ∃ g, g = w.heap.size := ⟨_, rfl⟩
  rw [← hg] at K0
  rw [← hg]
  clear hg r0 m0
  refine (specHeadOk_any n h _).mono ?_
  rintro e w1 ⟨rfl, h1⟩
  replace he := he.next h1; replace K0 := K0.ext h1; clear h1
  obtain ⟨r0, m0⟩ := K0.rules
  go_wp2_with fail
  refine (specCursorsOk_any A c l h.size _ (Hr.out.ext he) Hok.out hl).mono ?_
  rintro e w2 ⟨rfl, h1⟩
  replace he := he.next h1
  go_wp2_with fail
  go_ret
  exact ⟨ret_bool E.out.symm, he⟩
set_option maxHeartbeats 2000000 in
theorem implClientOk_any (n : Int) (s : ByteArray) (h : HeadD) (A : Option Addr) (c : Nat) (l : List CursorD) (w : World) (hs : s.size ≤ maxLen) (hr : ReadsL w w.heap.size CursorD.cells 3 A l) (hok : ∀ d ∈ l, d.Ok) (hl : l.length ≤ 1048576) :
    Calls Try.prog 125 #[.agg #[.int .i64 n, .string s, .int .i64 h.number, .int .i64 h.size, .string h.root, .int .i64 h.taken, .string h.takenRoot, .slice A l.length c]] w fun e w' => e = .returned (.bool (clientOk n s h l)) ∧ Ext w w' := by
  have Hok := Lib.hid hok; clear hok
  have Hr := Lib.hid hr; clear hr
  have K0 := Blk.new w 49 #[.int .i64 n, .string s, .int .i64 h.number, .int .i64 h.size, .string h.root, .int .i64 h.taken, .string h.takenRoot, .slice A l.length c]
  have he := Ext.new (Below.refl w.heap.size w) (.cells #[.int .i64 n, .string s, .int .i64 h.number, .int .i64 h.size, .string h.root, .int .i64 h.taken, .string h.takenRoot, .slice A l.length c] 49)
  obtain ⟨r0, m0⟩ := K0.rules
  cases b1 : inR n 1 32
  · have E := Lib.hid (show clientOk n s h l = false by simp [clientOk, b1])
    go_enter Try.func125, Try.ntmps125
    go_wp2_with (first | (go_at_call 106; refine (isWidth_any _ _).mono ?_; rintro e w' ⟨rfl, rfl⟩) | (go_at_call 149; refine (NameOk_any _ _ hs).mono ?_; rintro e w' ⟨rfl, rfl⟩))
    go_ret
    exact ⟨ret_bool E.out.symm, he⟩
  cases b2 : nameOk s
  · have E := Lib.hid (show clientOk n s h l = false by simp [clientOk, b2])
    go_enter Try.func125, Try.ntmps125
    go_wp2_with (first | (go_at_call 106; refine (isWidth_any _ _).mono ?_; rintro e w' ⟨rfl, rfl⟩) | (go_at_call 149; refine (NameOk_any _ _ hs).mono ?_; rintro e w' ⟨rfl, rfl⟩))
    go_ret
    exact ⟨ret_bool E.out.symm, he⟩
  cases b3 : headOk n h
  · have E := Lib.hid (show clientOk n s h l = false by simp [clientOk, b3])
    go_enter Try.func125, Try.ntmps125
    go_wp2_with (first | (go_at_call 106; refine (isWidth_any _ _).mono ?_; rintro e w' ⟨rfl, rfl⟩) | (go_at_call 149; refine (NameOk_any _ _ hs).mono ?_; rintro e w' ⟨rfl, rfl⟩))
    obtain ⟨g, hg⟩ : ∃ g, g = w.heap.size := ⟨_, rfl⟩
    rw [← hg] at K0
    rw [← hg]
    clear hg r0 m0
    refine (implHeadOk_any n h _).mono ?_
    rintro e w1 ⟨rfl, h1⟩
    replace he := he.next h1; replace K0 := K0.ext h1; clear h1
    obtain ⟨r0, m0⟩ := K0.rules
    go_wp2_with fail
    go_ret
    exact ⟨ret_bool E.out.symm, he⟩
  by_cases b4 : 8 < l.length
  · have E := Lib.hid (show clientOk n s h l = false by simp [clientOk]; omega)
    go_enter Try.func125, Try.ntmps125
    go_wp2_with (first | (go_at_call 106; refine (isWidth_any _ _).mono ?_; rintro e w' ⟨rfl, rfl⟩) | (go_at_call 149; refine (NameOk_any _ _ hs).mono ?_; rintro e w' ⟨rfl, rfl⟩))
    obtain ⟨g, hg⟩ : ∃ g, g = w.heap.size := ⟨_, rfl⟩
    rw [← hg] at K0
    rw [← hg]
    clear hg r0 m0
    refine (implHeadOk_any n h _).mono ?_
    rintro e w1 ⟨rfl, h1⟩
    replace he := he.next h1; replace K0 := K0.ext h1; clear h1
    obtain ⟨r0, m0⟩ := K0.rules
    go_wp2_with fail
    go_ret
    exact ⟨ret_bool E.out.symm, he⟩
  have E := Lib.hid (show clientOk n s h l = cursB none l h.size by simp only [clientOk, b1, b2, b3, Bool.true_and]; rw [show decide (l.length ≤ 8) = true from decide_eq_true (by omega), Bool.true_and])
  go_enter Try.func125, Try.ntmps125
  go_wp2_with (first | (go_at_call 106; refine (isWidth_any _ _).mono ?_; rintro e w' ⟨rfl, rfl⟩) | (go_at_call 149; refine (NameOk_any _ _ hs).mono ?_; rintro e w' ⟨rfl, rfl⟩))
  obtain ⟨g, hg⟩ : ∃ g, g = w.heap.size := ⟨_, rfl⟩
  rw [← hg] at K0
  rw [← hg]
  clear hg r0 m0
  refine (implHeadOk_any n h _).mono ?_
  rintro e w1 ⟨rfl, h1⟩
  replace he := he.next h1; replace K0 := K0.ext h1; clear h1
  obtain ⟨r0, m0⟩ := K0.rules
  go_wp2_with fail
  refine (CursorsOk_any A c l h.size _ (Hr.out.ext he) Hok.out hl).mono ?_
  rintro e w2 ⟨rfl, h1⟩
  replace he := he.next h1
  go_wp2_with fail
  go_ret
  exact ⟨ret_bool E.out.symm, he⟩
end Go.Proofs.Ytcpfgldcijkhlaa
