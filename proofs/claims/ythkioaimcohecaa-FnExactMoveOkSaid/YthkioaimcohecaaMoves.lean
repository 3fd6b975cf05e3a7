/-
  Moves and acts: walks. No condition.
-/
import Derived.Test.YthkioaimcohecaaConvMove
import Derived.Test.YthkioaimcohecaaConvAct
namespace Go.Proofs.Ythkioaimcohecaa
open Go.RowKit
set_option linter.unusedVariables false

def kindsB (n k a o : Int) : Bool := inR n 1 4 && inR k 1 7 && inR a 0 (n - 1) && inR o 0 (n - 1)
theorem inR_true {n a b : Int} (h : inR n a b = true) : a ≤ n ∧ n ≤ b := by simpa [inR] using h

theorem kindsOk_any (n k a o : Int) (w : World) :
    Calls Try.prog 63 #[.int .i64 n, .int .i64 k, .int .i64 a, .int .i64 o] w fun e w' => e = .returned (.bool (kindsB n k a o)) ∧ w = w' := by
  cases c2 : inR k 1 7 <;> cases c1 : inR n 1 4
  case true.true =>
    have hb := inR_true c1
    cases c3 : inR a 0 (n - 1)
    all_goals
      go_enter Try.func63, Try.ntmps63
      go_wp2_with (go_at_call 71; refine (inRange_any _ _ _ _).mono ?_; rintro e w' ⟨rfl, rfl⟩)
      go_ret
      exact ⟨by simp [kindsB, *], rfl⟩
  all_goals
    go_enter Try.func63, Try.ntmps63
    go_wp2_with (go_at_call 71; refine (inRange_any _ _ _ _).mono ?_; rintro e w' ⟨rfl, rfl⟩)
    go_ret
    exact ⟨by simp [kindsB, *], rfl⟩

theorem specMoveOk_any (n : Int) (d : MoveD) (w : World) :
    Calls Try.prog 18 #[.int .i64 n, .agg #[.int .i64 d.kind, .int .i64 d.who, .int .i64 d.other, .string d.topic, .int .i64 d.index, .string d.text]] w fun e w' => e = .returned (.bool (kindsB n d.kind d.who d.other)) ∧ Ext w w' := by
  cases c1 : inR n 1 4
  · go_enter Try.func18, Try.ntmps18
    go_wp2_with (go_at_call 62; refine (l01In_any _ _ _ _).mono ?_; rintro e w' ⟨rfl, rfl⟩)
    go_ret
    exact ⟨by simp [kindsB, *], by go_grown⟩
  · have hb := inR_true c1
    cases c2 : inR d.kind 1 7 <;> cases c3 : inR d.who 0 (n - 1)
    all_goals
      go_enter Try.func18, Try.ntmps18
      go_wp2_with (go_at_call 62; refine (l01In_any _ _ _ _).mono ?_; rintro e w' ⟨rfl, rfl⟩)
      go_ret
      exact ⟨by simp [kindsB, *], by go_grown⟩

theorem MoveOk_any (n : Int) (d : MoveD) (w : World) :
    Calls Try.prog 20 #[.int .i64 n, .agg #[.int .i64 d.kind, .int .i64 d.who, .int .i64 d.other, .string d.topic, .int .i64 d.index, .string d.text]] w fun e w' => e = .returned (.bool (kindsB n d.kind d.who d.other)) ∧ Ext w w' := by
  go_enter Try.func20, Try.ntmps20
  go_wp2_with (go_at_call 63; refine (kindsOk_any _ _ _ _ _).mono ?_; rintro e w' ⟨rfl, rfl⟩)
  go_ret
  exact ⟨rfl, by go_grown⟩
theorem specActOk_any (n : Int) (d : ActD) (w : World) :
    Calls Try.prog 22 #[.int .i64 n, .agg #[.int .i64 d.kind, .int .i64 d.who, .int .i64 d.other, .string d.topic, .int .i64 d.index, .int .i64 d.time, .string d.key, .string d.body, .bool d.cut, .int .i64 d.whole_, .int .i64 d.part_, .int .i64 d.again]] w fun e w' => e = .returned (.bool (kindsB n d.kind d.who d.other)) ∧ Ext w w' := by
  cases c1 : inR n 1 4
  · go_enter Try.func22, Try.ntmps22
    go_wp2_with (go_at_call 62; refine (l01In_any _ _ _ _).mono ?_; rintro e w' ⟨rfl, rfl⟩)
    go_ret
    exact ⟨by simp [kindsB, *], by go_grown⟩
  · have hb := inR_true c1
    cases c2 : inR d.kind 1 7 <;> cases c3 : inR d.who 0 (n - 1)
    all_goals
      go_enter Try.func22, Try.ntmps22
      go_wp2_with (go_at_call 62; refine (l01In_any _ _ _ _).mono ?_; rintro e w' ⟨rfl, rfl⟩)
      go_ret
      exact ⟨by simp [kindsB, *], by go_grown⟩

theorem ActOk_any (n : Int) (d : ActD) (w : World) :
    Calls Try.prog 24 #[.int .i64 n, .agg #[.int .i64 d.kind, .int .i64 d.who, .int .i64 d.other, .string d.topic, .int .i64 d.index, .int .i64 d.time, .string d.key, .string d.body, .bool d.cut, .int .i64 d.whole_, .int .i64 d.part_, .int .i64 d.again]] w fun e w' => e = .returned (.bool (kindsB n d.kind d.who d.other)) ∧ Ext w w' := by
  go_enter Try.func24, Try.ntmps24
  go_wp2_with (go_at_call 63; refine (kindsOk_any _ _ _ _ _).mono ?_; rintro e w' ⟨rfl, rfl⟩)
  go_ret
  exact ⟨rfl, by go_grown⟩
end Go.Proofs.Ythkioaimcohecaa
