/-
  Forks of heads, and comparing them: walks. No condition.
  Evidence: walks. No condition.
  EvidenceOf: walks. Written by program (gen_evof.py). No condition.
-/
import Derived.Test.YtkcjhfidgnbdiaaGreatHeadOps
namespace Go.Proofs.YtkcjhfidgnbdiaaGreat
set_option linter.unusedSimpArgs false
open Go.RowKit
set_option linter.unusedVariables false

def parted (a b : HeadD) : Bool := ((a.size == b.size) && !(a.root.toList == b.root.toList)) || ((a.taken == b.taken) && !(a.takenRoot.toList == b.takenRoot.toList))
theorem nes_of_beq {a b : List UInt8} {p : Bool} (h : (a == b) = p) : (a != b) = !p := by rw [bne, h]
def forkB (n : Int) (a b : HeadD) : Bool := headOk n a && headOk n b && parted a b
set_option maxHeartbeats 2000000 in
theorem parted_any (a b : HeadD) (w : World) : Calls Tryz.prog 65 #[.agg #[.int .i64 a.number, .int .i64 a.size, .string a.root, .int .i64 a.taken, .string a.takenRoot], .agg #[.int .i64 b.number, .int .i64 b.size, .string b.root, .int .i64 b.taken, .string b.takenRoot]] w fun e w' => e = .returned (.bool (parted a b)) ∧ Ext w w' := by
  have E := Lib.hid (show parted a b = (((a.size == b.size) && !(a.root.toList == b.root.toList)) || ((a.taken == b.taken) && !(a.takenRoot.toList == b.takenRoot.toList))) from rfl)
  cases c1 : (a.size == b.size) <;> cases c2 : (a.root.toList == b.root.toList) <;> cases c3 : (a.taken == b.taken) <;> cases c4 : (a.takenRoot.toList == b.takenRoot.toList)
  all_goals
    have E2 := Lib.hid (show parted a b = _ by rw [E.out, c1, c2, c3, c4])
    have c2' := nes_of_beq c2
    have c4' := nes_of_beq c4
    clear E
    go_enter Tryz.func65, Tryz.ntmps65
    go_wp2_with fail
    go_ret
    exact ⟨ret_bool E2.out.symm, by go_grown⟩
/-- GEN -/
def genMark : Nat := 0
set_option maxHeartbeats 4000000 in
set_option maxRecDepth 100000 in
theorem implForkOf_any (n : Int) (a b : HeadD) (w : World) (ha : a.Ok) (hb : b.Ok) : Calls Tryz.prog 18 #[.int .i64 n, .agg #[.int .i64 a.number, .int .i64 a.size, .string a.root, .int .i64 a.taken, .string a.takenRoot], .agg #[.int .i64 b.number, .int .i64 b.size, .string b.root, .int .i64 b.taken, .string b.takenRoot]] w fun e w' => e = .returned (.bool (forkB n a b)) ∧ Ext w w' := by
  obtain ⟨B0, B1, he⟩ := two_blks w #[.int .i64 a.number, .int .i64 a.size, .string a.root, .int .i64 a.taken, .string a.takenRoot] #[.int .i64 b.number, .int .i64 b.size, .string b.root, .int .i64 b.taken, .string b.takenRoot] 33 33
  have K0 := Lib.hid B0; have K1 := Lib.hid B1; have He := Lib.hid he
  obtain ⟨r0, m0⟩ := B0.rules
  obtain ⟨r1, m1⟩ := B1.rules
  clear B0 B1 he
  cases b1 : headOk n a
  · have E := Lib.hid (show forkB n a b = false by simp [forkB, b1])
    go_enter Tryz.func18, Tryz.ntmps18
    go_wp2_with fail
    obtain ⟨g, hg⟩ : ∃ g, g = w.heap.size := ⟨_, rfl⟩
    rw [← hg] at K0 K1
    rw [← hg]
    clear hg r0 m0 r1 m1
    have C0 := K0.out; have C1 := K1.out; have he := He.out
    clear K0 K1 He
    refine (implHeadOk_any n a _).mono ?_
    rintro e w1 ⟨rfl, h1⟩
    replace C0 := C0.ext h1; replace C1 := C1.ext h1; replace he := he.next h1; clear h1
    obtain ⟨r0, m0⟩ := C0.rules
    obtain ⟨r1, m1⟩ := C1.rules
    go_wp2_with fail
    go_ret
    exact ⟨ret_bool E.out.symm, he⟩
  cases b2 : headOk n b
  · have E := Lib.hid (show forkB n a b = false by simp [forkB, b2])
    go_enter Tryz.func18, Tryz.ntmps18
    go_wp2_with fail
    obtain ⟨g, hg⟩ : ∃ g, g = w.heap.size := ⟨_, rfl⟩
    rw [← hg] at K0 K1
    rw [← hg]
    clear hg r0 m0 r1 m1
    have C0 := K0.out; have C1 := K1.out; have he := He.out
    clear K0 K1 He
    refine (implHeadOk_any n a _).mono ?_
    rintro e w2 ⟨rfl, h1⟩
    replace C0 := C0.ext h1; replace C1 := C1.ext h1; replace he := he.next h1; clear h1
    obtain ⟨r0, m0⟩ := C0.rules
    obtain ⟨r1, m1⟩ := C1.rules
    go_wp2_with fail
    refine (implHeadOk_any n b _).mono ?_
    rintro e w3 ⟨rfl, h1⟩
    replace C0 := C0.ext h1; replace C1 := C1.ext h1; replace he := he.next h1; clear h1
    clear r0 m0 r1 m1
    obtain ⟨r0, m0⟩ := C0.rules
    obtain ⟨r1, m1⟩ := C1.rules
    go_wp2_with fail
    go_ret
    exact ⟨ret_bool E.out.symm, he⟩
  have E := Lib.hid (show forkB n a b = parted a b by simp only [forkB, b1, b2, Bool.true_and])
  go_enter Tryz.func18, Tryz.ntmps18
  go_wp2_with fail
  obtain ⟨g, hg⟩ : ∃ g, g = w.heap.size := ⟨_, rfl⟩
  rw [← hg] at K0 K1
  rw [← hg]
  clear hg r0 m0 r1 m1
  have C0 := K0.out; have C1 := K1.out; have he := He.out
  clear K0 K1 He
  refine (implHeadOk_any n a _).mono ?_
  rintro e w4 ⟨rfl, h1⟩
  replace C0 := C0.ext h1; replace C1 := C1.ext h1; replace he := he.next h1; clear h1
  obtain ⟨r0, m0⟩ := C0.rules
  obtain ⟨r1, m1⟩ := C1.rules
  go_wp2_with fail
  refine (implHeadOk_any n b _).mono ?_
  rintro e w5 ⟨rfl, h1⟩
  replace C0 := C0.ext h1; replace C1 := C1.ext h1; replace he := he.next h1; clear h1
  clear r0 m0 r1 m1
  obtain ⟨r0, m0⟩ := C0.rules
  obtain ⟨r1, m1⟩ := C1.rules
  go_wp2_with fail
  refine (parted_any a b _).mono ?_
  rintro e w6 ⟨rfl, h1⟩
  replace C0 := C0.ext h1; replace C1 := C1.ext h1; replace he := he.next h1; clear h1
  clear r0 m0 r1 m1
  obtain ⟨r0, m0⟩ := C0.rules
  obtain ⟨r1, m1⟩ := C1.rules
  go_wp2_with fail
  go_ret
  exact ⟨ret_bool E.out.symm, he⟩
def compareI (n : Int) (a b : HeadD) : Int := if headOk n a = false then 5 else if headOk n b = false then 5 else if parted a b = true then 1 else if a.size = b.size ∧ a.taken = b.taken then 0 else if a.size ≤ b.size ∧ a.taken ≤ b.taken then 2 else if b.size ≤ a.size ∧ b.taken ≤ a.taken then 3 else 4
end Go.Proofs.YtkcjhfidgnbdiaaGreat
namespace Go.Proofs.YtkcjhfidgnbdiaaGreat
set_option linter.unusedSimpArgs false
open Go.RowKit
set_option linter.unusedVariables false

theorem EvidenceD.oks {d : EvidenceD} (hd : d.Ok) : d.a.Ok ∧ d.b.Ok := by
  unfold EvidenceD.Ok at hd
  exact ⟨⟨hd.2.1, hd.2.2.1, hd.2.2.2.1, hd.2.2.2.2.1, hd.2.2.2.2.2.1⟩, hd.2.2.2.2.2.2⟩
end Go.Proofs.YtkcjhfidgnbdiaaGreat
namespace Go.Proofs.YtkcjhfidgnbdiaaGreat
set_option linter.unusedSimpArgs false
open Go.RowKit
set_option linter.unusedVariables false

def noHead : HeadD := ⟨0, 0, ⟨#[]⟩, 0, ⟨#[]⟩⟩
def evD (n : Int) (a b : HeadD) (ok : Bool) : EvidenceD := if ok then ⟨n, a, b⟩ else ⟨0, noHead, noHead⟩
theorem evD_yes (n : Int) (a b : HeadD) : evD n a b true = ⟨n, a, b⟩ := rfl
theorem evD_no (n : Int) (a b : HeadD) : evD n a b false = ⟨0, noHead, noHead⟩ := rfl
theorem three_blks (w : World) (x2 x3 x4 : Array Value) (t2 t3 t4 : TypeId) :
    Blk (((w.alloc (.cells x2 t2)).alloc (.cells x3 t3)).alloc (.cells x4 t4)) w.heap.size t2 x2 ∧ Blk (((w.alloc (.cells x2 t2)).alloc (.cells x3 t3)).alloc (.cells x4 t4)) (w.heap.size + 1) t3 x3 ∧ Blk (((w.alloc (.cells x2 t2)).alloc (.cells x3 t3)).alloc (.cells x4 t4)) (w.heap.size + 1 + 1) t4 x4 ∧ Ext w (((w.alloc (.cells x2 t2)).alloc (.cells x3 t3)).alloc (.cells x4 t4)) := by
  obtain ⟨h2, h3, he⟩ := two_blks w x2 x3 t2 t3
  have h4 : ((w.alloc (.cells x2 t2)).alloc (.cells x3 t3)).heap.size = w.heap.size + 1 + 1 := by simp
  refine ⟨h2.alloc _, h3.alloc _, ?_, Ext.new he _⟩
  have := Blk.new ((w.alloc (.cells x2 t2)).alloc (.cells x3 t3)) t4 x4; rwa [h4] at this
end Go.Proofs.YtkcjhfidgnbdiaaGreat
