/-
  Of two drawn heads a fork is one from both sides, none of a head with itself, and just what EvidenceOf makes evidence of, which EvidenceOk takes; CompareHeads tells the same of both sides. No condition.
-/
import Derived.Test.YteaphajagmbllaaRows
import Derived.Test.YteaphajagmbllaaFacts
import Derived.Test.YteaphajagmbllaaDraw7
import Derived.Test.YteaphajagmbllaaEvOf
import Derived.Test.YteaphajagmbllaaEvidenceOps
namespace Go.Proofs.Yteaphajagmbllaa
open Go.RowKit Go.WideShapes Go.ChangeAt
set_option linter.unusedVariables false
set_option linter.unusedSimpArgs false

theorem parted_comm (a b : HeadD) : parted a b = parted b a := by
  unfold parted
  rw [Bool.beq_comm (a := a.size), Bool.beq_comm (a := a.root.toList), Bool.beq_comm (a := a.taken), Bool.beq_comm (a := a.takenRoot.toList)]
theorem parted_self (a : HeadD) : parted a a = false := by simp [parted]
theorem forkB_comm (n : Int) (a b : HeadD) : forkB n a b = forkB n b a := by
  unfold forkB
  rw [parted_comm a b, Bool.and_comm (headOk n a)]
theorem forkB_self (n : Int) (a : HeadD) : forkB n a a = false := by rw [forkB, parted_self, Bool.and_false]
theorem fork_ev (n : Int) (a b : HeadD) (f : Bool) (h : forkB n a b = f) : forkB (evD n a b f).width (evD n a b f).a (evD n a b f).b = f := by
  cases f
  · rfl
  · exact h
/-- How forks and comparisons go together. -/
theorem fork_cases (n : Int) (a b : HeadD) : (forkB n a b = true ∧ compareI n a b = 1 ∧ compareI n b a = 1) ∨ (forkB n a b = false ∧ compareI n a b = 0 ∧ compareI n b a = 0) ∨ (forkB n a b = false ∧ compareI n a b = 2 ∧ compareI n b a = 3) ∨ (forkB n a b = false ∧ compareI n a b = 3 ∧ compareI n b a = 2) ∨ (forkB n a b = false ∧ compareI n a b = 4 ∧ compareI n b a = 4) ∨ (forkB n a b = false ∧ compareI n a b = 5 ∧ compareI n b a = 5) := by
  have hc := parted_comm b a
  cases h1 : headOk n a
  · simp [forkB, compareI, h1]
  · cases h2 : headOk n b
    · simp [forkB, compareI, h1, h2]
    · cases h3 : parted a b
      · rw [h3] at hc
        simp only [forkB, compareI, h1, h2, h3, hc, Bool.and_false, if_false, Bool.true_and, Bool.true_eq_false, Bool.false_eq_true]
        by_cases e1 : a.size = b.size ∧ a.taken = b.taken
        · rw [if_pos e1, if_pos ⟨e1.1.symm, e1.2.symm⟩]; simp
        · have e1' : ¬ (b.size = a.size ∧ b.taken = a.taken) := fun h => e1 ⟨h.1.symm, h.2.symm⟩
          rw [if_neg e1, if_neg e1']
          by_cases e2 : a.size ≤ b.size ∧ a.taken ≤ b.taken
          · have e3 : ¬ (b.size ≤ a.size ∧ b.taken ≤ a.taken) := by omega
            rw [if_pos e2, if_neg e3, if_pos e2]
            simp
          · rw [if_neg e2]
            by_cases e3 : b.size ≤ a.size ∧ b.taken ≤ a.taken
            · rw [if_pos e3, if_pos e3]
              simp
            · rw [if_neg e3, if_neg e3, if_neg e2]
              simp
      · rw [h3] at hc
        simp [forkB, compareI, h1, h2, h3, hc]
theorem byte2_typed {w : World} {n : Nat} {cs : List Value} (h : Typed Try.prog w n 5 cs) : ∃ x, cs = byteC x ∧ ByteIn x := by
  obtain ⟨m, rfl, hw⟩ := typed_int Try.underlying5 h
  refine ⟨m, rfl, ?_⟩
  simp [Lit.wf, IntKind.min, IntKind.max, IntKind.signed, IntKind.bits] at hw
  exact ⟨by omega, by omega⟩
theorem big2_any (A : Option Addr) (n c : Nat) (w : World) (h : n ≤ maxLen) : Calls Try.prog 8 #[.slice A n c] w fun e w' => e = .returned (.bool (decide (1048576 < n))) ∧ w = w' := by
  by_cases hb : 1048576 < n
  · have hd : decide (1048576 < n) = true := decide_eq_true hb
    rw [hd]
    go_enter Try.func8, Try.ntmps8
    go_wp2_with fail
    go_ret
    exact ⟨ret_bool (by simp; omega), rfl⟩
  · have hd : decide (1048576 < n) = false := decide_eq_false hb
    rw [hd]
    go_enter Try.func8, Try.ntmps8
    go_wp2_with fail
    go_ret
    exact ⟨ret_bool (by simp; omega), rfl⟩
theorem evD_ok (n : Int) (a b : HeadD) (f : Bool) (hn : 1 ≤ n ∧ n ≤ 32) (ha : a.Ok) (hb : b.Ok) : (evD n a b f).Ok := by
  obtain ⟨a1, a2, a3, a4, a5⟩ := ha
  obtain ⟨b1, b2, b3, b4, b5⟩ := hb
  cases f
  · refine ⟨rfl, rfl, rfl, ?_, rfl, ?_, rfl, rfl, ?_, rfl, ?_⟩ <;> exact Nat.zero_le _
  · refine ⟨?_, a1, a2, a3, a4, a5, b1, b2, b3, b4, b5⟩
    show (Lit.int .i64 n).wf = true
    simp [Lit.wf, IntKind.min, IntKind.max, IntKind.signed, IntKind.bits]
    omega
set_option maxHeartbeats 4000000 in
set_option maxRecDepth 100000 in
theorem lawForks_walk (A : Option Addr) (c : Nat) (l : List Int) (w : World) (hlen : l.length ≤ maxLen) (hin : ∀ x ∈ l, ByteIn x) (hr : ReadsL w w.heap.size byteC 1 A l) :
    Calls Try.prog 5 #[.slice A l.length c] w fun e w' => e = .returned (.bool true) ∧ Ext w w' := by
  by_cases hb : 1048576 < l.length
  · have hd : decide (1048576 < l.length) = true := decide_eq_true hb
    go_enter Try.func5, Try.ntmps5
    go_wp2_with (go_at_call 8; refine (big2_any _ _ _ _ hlen).mono ?_; rintro e w' ⟨rfl, rfl⟩; rw [hd])
    go_ret
    exact ⟨rfl, Below.refl _ _⟩
  have hd : decide (1048576 < l.length) = false := decide_eq_false hb
  have Hr := Lib.hid hr; clear hr
  have Hin := Lib.hid hin; clear hin
  go_enter Try.func5, Try.ntmps5
  go_wp2_with (go_at_call 8; refine (big2_any _ _ _ _ hlen).mono ?_; rintro e w' ⟨rfl, rfl⟩; rw [hd])
  refine (DrawHeads_any A c l _ hlen Hin.out Hr.out).mono ?_
  rintro e w1 ⟨he, n, a, b, hn1, hn2, ha, hb', rfl⟩
  obtain ⟨f, hf⟩ : ∃ f, f = forkB n a b := ⟨_, rfl⟩
  obtain ⟨x, hx⟩ : ∃ x, x = compareI n a b := ⟨_, rfl⟩
  obtain ⟨y, hy⟩ : ∃ y, y = compareI n b a := ⟨_, rfl⟩
  obtain ⟨E, hE⟩ : ∃ E, E = evD n a b f := ⟨_, rfl⟩
  have F1 := Lib.hid (show ∀ w, Calls Try.prog 16 #[.int .i64 n, .agg #[.int .i64 a.number, .int .i64 a.size, .string a.root, .int .i64 a.taken, .string a.takenRoot], .agg #[.int .i64 b.number, .int .i64 b.size, .string b.root, .int .i64 b.taken, .string b.takenRoot]] w fun e w' => e = .returned (.bool f) ∧ Ext w w' from fun w => by rw [hf]; exact implForkOf_any n a b w ha hb')
  have F2 := Lib.hid (show ∀ w, Calls Try.prog 16 #[.int .i64 n, .agg #[.int .i64 b.number, .int .i64 b.size, .string b.root, .int .i64 b.taken, .string b.takenRoot], .agg #[.int .i64 a.number, .int .i64 a.size, .string a.root, .int .i64 a.taken, .string a.takenRoot]] w fun e w' => e = .returned (.bool f) ∧ Ext w w' from fun w => by rw [hf, forkB_comm]; exact implForkOf_any n b a w hb' ha)
  have F3 := Lib.hid (show ∀ w, Calls Try.prog 16 #[.int .i64 n, .agg #[.int .i64 a.number, .int .i64 a.size, .string a.root, .int .i64 a.taken, .string a.takenRoot], .agg #[.int .i64 a.number, .int .i64 a.size, .string a.root, .int .i64 a.taken, .string a.takenRoot]] w fun e w' => e = .returned (.bool false) ∧ Ext w w' from fun w => by rw [← forkB_self n a]; exact implForkOf_any n a a w ha ha)
  have F4 := Lib.hid (show ∀ w, Calls Try.prog 19 #[.int .i64 n, .agg #[.int .i64 a.number, .int .i64 a.size, .string a.root, .int .i64 a.taken, .string a.takenRoot], .agg #[.int .i64 b.number, .int .i64 b.size, .string b.root, .int .i64 b.taken, .string b.takenRoot]] w fun e w' => e = .returned (.bool f) ∧ Ext w w' from fun w => by rw [hf]; exact specForkOf_any n a b w ha hb')
  have F5 := Lib.hid (show ∀ w, Calls Try.prog 17 #[.int .i64 n, .agg #[.int .i64 a.number, .int .i64 a.size, .string a.root, .int .i64 a.taken, .string a.takenRoot], .agg #[.int .i64 b.number, .int .i64 b.size, .string b.root, .int .i64 b.taken, .string b.takenRoot]] w fun e w' => e = .returned (.tuple #[.agg #[.int .i64 E.width, .int .i64 E.a.number, .int .i64 E.a.size, .string E.a.root, .int .i64 E.a.taken, .string E.a.takenRoot, .int .i64 E.b.number, .int .i64 E.b.size, .string E.b.root, .int .i64 E.b.taken, .string E.b.takenRoot], .bool f]) ∧ Ext w w' from fun w => by rw [hE, hf]; exact implEvidenceOf_any n a b w ha hb')
  have F6 := Lib.hid (show ∀ w, Calls Try.prog 20 #[.agg #[.int .i64 E.width, .int .i64 E.a.number, .int .i64 E.a.size, .string E.a.root, .int .i64 E.a.taken, .string E.a.takenRoot, .int .i64 E.b.number, .int .i64 E.b.size, .string E.b.root, .int .i64 E.b.taken, .string E.b.takenRoot]] w fun e w' => e = .returned (.bool f) ∧ Ext w w' from fun w => by have h := implEvidenceOk_any E w (by rw [hE]; exact evD_ok n a b f ⟨hn1, hn2⟩ ha hb'); rw [hE, fork_ev n a b f hf.symm, ← hE] at h; exact h)
  have F7 := Lib.hid (show ∀ w, Calls Try.prog 18 #[.int .i64 n, .agg #[.int .i64 a.number, .int .i64 a.size, .string a.root, .int .i64 a.taken, .string a.takenRoot], .agg #[.int .i64 b.number, .int .i64 b.size, .string b.root, .int .i64 b.taken, .string b.takenRoot]] w fun e w' => e = .returned (.int .i64 x) ∧ Ext w w' from fun w => by rw [hx]; exact implCompareHeads_any n a b w ha hb')
  have F8 := Lib.hid (show ∀ w, Calls Try.prog 18 #[.int .i64 n, .agg #[.int .i64 b.number, .int .i64 b.size, .string b.root, .int .i64 b.taken, .string b.takenRoot], .agg #[.int .i64 a.number, .int .i64 a.size, .string a.root, .int .i64 a.taken, .string a.takenRoot]] w fun e w' => e = .returned (.int .i64 y) ∧ Ext w w' from fun w => by rw [hy]; exact implCompareHeads_any n b a w hb' ha)
  have hcs := fork_cases n a b
  rw [← hf, ← hx, ← hy] at hcs
  clear hf hx hy hE ha hb' hn1 hn2
  have K0 := (Blk.new w1 42 #[.int .i64 a.number, .int .i64 a.size, .string a.root, .int .i64 a.taken, .string a.takenRoot]).alloc (.cells #[.int .i64 b.number, .int .i64 b.size, .string b.root, .int .i64 b.taken, .string b.takenRoot] 42)
  have K1 := Blk.new (w1.alloc (.cells #[.int .i64 a.number, .int .i64 a.size, .string a.root, .int .i64 a.taken, .string a.takenRoot] 42)) 42 #[.int .i64 b.number, .int .i64 b.size, .string b.root, .int .i64 b.taken, .string b.takenRoot]
  rw [World.size_alloc] at K1
  replace he := (he.new (.cells #[.int .i64 a.number, .int .i64 a.size, .string a.root, .int .i64 a.taken, .string a.takenRoot] 42)).new (.cells #[.int .i64 b.number, .int .i64 b.size, .string b.root, .int .i64 b.taken, .string b.takenRoot] 42)
  go_upto_region 4 with fail
  obtain ⟨g, hg⟩ : ∃ g, g = w1.heap.size := ⟨_, rfl⟩
  rw [← hg] at K0 K1
  rw [← hg]
  clear hg
  generalize (w1.alloc (.cells #[.int .i64 a.number, .int .i64 a.size, .string a.root, .int .i64 a.taken, .string a.takenRoot] 42)).alloc (.cells #[.int .i64 b.number, .int .i64 b.size, .string b.root, .int .i64 b.taken, .string b.takenRoot] 42) = w2 at *
  obtain ⟨hc0, hf0⟩ := K0.rules
  obtain ⟨hc1, hf1⟩ := K1.rules
  go_wp2_with fail
  clear hc0 hf0 hc1 hf1
  refine (F1.out _).mono ?_
  rintro e w3 ⟨rfl, h1⟩
  replace K0 := K0.ext h1; replace K1 := K1.ext h1; replace he := he.next h1; clear h1
  obtain ⟨hc0, hf0⟩ := K0.rules
  obtain ⟨hc1, hf1⟩ := K1.rules
  go_wp2_with fail
  clear hc0 hf0 hc1 hf1
  refine (F5.out _).mono ?_
  rintro e w4 ⟨rfl, h1⟩
  replace K0 := K0.ext h1; replace K1 := K1.ext h1; replace he := he.next h1; clear h1
  go_upto_region 6 with fail
  have K2 := Blk.new w4 47 #[.int .i64 E.width, .int .i64 E.a.number, .int .i64 E.a.size, .string E.a.root, .int .i64 E.a.taken, .string E.a.takenRoot, .int .i64 E.b.number, .int .i64 E.b.size, .string E.b.root, .int .i64 E.b.taken, .string E.b.takenRoot]
  replace K0 := K0.alloc (.cells #[.int .i64 E.width, .int .i64 E.a.number, .int .i64 E.a.size, .string E.a.root, .int .i64 E.a.taken, .string E.a.takenRoot, .int .i64 E.b.number, .int .i64 E.b.size, .string E.b.root, .int .i64 E.b.taken, .string E.b.takenRoot] 47)
  replace K1 := K1.alloc (.cells #[.int .i64 E.width, .int .i64 E.a.number, .int .i64 E.a.size, .string E.a.root, .int .i64 E.a.taken, .string E.a.takenRoot, .int .i64 E.b.number, .int .i64 E.b.size, .string E.b.root, .int .i64 E.b.taken, .string E.b.takenRoot] 47)
  replace he := he.new (.cells #[.int .i64 E.width, .int .i64 E.a.number, .int .i64 E.a.size, .string E.a.root, .int .i64 E.a.taken, .string E.a.takenRoot, .int .i64 E.b.number, .int .i64 E.b.size, .string E.b.root, .int .i64 E.b.taken, .string E.b.takenRoot] 47)
  obtain ⟨q, hq⟩ : ∃ q, q = w4.heap.size := ⟨_, rfl⟩
  rw [← hq] at K2
  rw [← hq]
  clear hq
  generalize w4.alloc (.cells #[.int .i64 E.width, .int .i64 E.a.number, .int .i64 E.a.size, .string E.a.root, .int .i64 E.a.taken, .string E.a.takenRoot, .int .i64 E.b.number, .int .i64 E.b.size, .string E.b.root, .int .i64 E.b.taken, .string E.b.takenRoot] 47) = w5 at *
  obtain ⟨hc0, hf0⟩ := K0.rules
  obtain ⟨hc1, hf1⟩ := K1.rules
  go_wp2_with fail
  clear hc0 hf0 hc1 hf1
  refine (F7.out _).mono ?_
  rintro e w6 ⟨rfl, h1⟩
  replace K0 := K0.ext h1; replace K1 := K1.ext h1; replace K2 := K2.ext h1; replace he := he.next h1; clear h1
  obtain ⟨hc0, hf0⟩ := K0.rules
  obtain ⟨hc1, hf1⟩ := K1.rules
  go_wp2_with fail
  clear hc0 hf0 hc1 hf1
  refine (F8.out _).mono ?_
  rintro e w7 ⟨rfl, h1⟩
  replace K0 := K0.ext h1; replace K1 := K1.ext h1; replace K2 := K2.ext h1; replace he := he.next h1; clear h1
  rcases hcs with ⟨rfl, rfl, rfl⟩ | ⟨rfl, rfl, rfl⟩ | ⟨rfl, rfl, rfl⟩ | ⟨rfl, rfl, rfl⟩ | ⟨rfl, rfl, rfl⟩ | ⟨rfl, rfl, rfl⟩
  all_goals
    obtain ⟨hc0, hf0⟩ := K0.rules
    obtain ⟨hc1, hf1⟩ := K1.rules
    go_wp2_with fail
    clear hc0 hf0 hc1 hf1
    refine (F4.out _).mono ?_
    rintro e w8 ⟨rfl, h1⟩
    replace K0 := K0.ext h1; replace K1 := K1.ext h1; replace K2 := K2.ext h1; replace he := he.next h1; clear h1
    obtain ⟨hc0, hf0⟩ := K0.rules
    obtain ⟨hc1, hf1⟩ := K1.rules
    go_wp2_with fail
    clear hc0 hf0 hc1 hf1
    refine (F2.out _).mono ?_
    rintro e w9 ⟨rfl, h1⟩
    replace K0 := K0.ext h1; replace K1 := K1.ext h1; replace K2 := K2.ext h1; replace he := he.next h1; clear h1
    obtain ⟨hc0, hf0⟩ := K0.rules
    go_wp2_with fail
    clear hc0 hf0
    refine (F3.out _).mono ?_
    rintro e wa ⟨rfl, h1⟩
    replace K0 := K0.ext h1; replace K1 := K1.ext h1; replace K2 := K2.ext h1; replace he := he.next h1; clear h1
    obtain ⟨hc2, hf2⟩ := K2.rules
    go_wp2_with fail
    clear hc2 hf2
    refine (F6.out _).mono ?_
    rintro e wb ⟨rfl, h1⟩
    replace he := he.next h1; clear h1
    go_wp2_with fail
    go_ret
    exact ⟨rfl, he⟩

set_option maxRecDepth 100000 in
theorem Forks_holds : Rows.FnForksSaid :=
  lawOver (p := Try.pinned) (c := Rows.fnForksRow) (s := Rows.fnForksSpec) 5 Try.f5 4
    own laidOut (by kernel_rfl) (by kernel_rfl) rfl rfl Try.underlying4
    (fun H ds h => by match ds, h with | [d0], _ => rfl)
    rfl rfl rfl rfl rfl rfl rfl ⟨rfl, rfl, rfl, rfl, rfl⟩ rfl rfl rfl rfl rfl (by kernel_rfl) Try.func5 (by kernel_rfl)
    (of_decide_eq_true (by kernel_rfl)) (by unfold Func.isWrapper; rw [if_neg (of_decide_eq_false (by kernel_rfl))]; exact ⟨rfl, rfl⟩)
    rfl rfl (fun _ _ => rfl) rfl rfl rfl rfl
    (fun os started H enc => ChangeSpec.witness6 (enc := enc) (C := Try.checked) false ⟨#[], #[.slice none 0 0], []⟩ 20 (by kernel_rfl) (by kernel_rfl) (by kernel_rfl) (by kernel_rfl))
    (fun W args h => by
      have hs := h.size
      obtain ⟨l⟩ := args
      match l, hs with
      | [v0], _ =>
        obtain ⟨base0, n0, o0, t0⟩ := h.arg 0 22 v0 rfl rfl
        obtain ⟨A0, l0, c0, rfl⟩ := okWide_slice Try.underlying22 o0
        obtain ⟨B0, d0, a, e0, x0, y0, r0, k0⟩ := typed_slice byteC ByteIn 1 Try.underlying22 (by kernel_rfl) (by decide) (fun _ => rfl) (fun m es h => byte2_typed h) t0
        obtain ⟨rfl, rfl, rfl⟩ : A0 = B0 ∧ l0 = a.length ∧ c0 = d0 := by simpa [Value.cells] using e0
        exact lawForks_walk A0 c0 a W (Nat.le_trans x0 y0) k0 r0)
#print axioms Forks_holds
end Go.Proofs.Yteaphajagmbllaa
