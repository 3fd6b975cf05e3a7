/-
  markGivenS, heldGivenS at a row of the call's own, nil or not. Written by program (gen_markown.py). No condition.
-/
import Derived.Test.YtkcjhfidgnbdiaaMarkGiven
import Derived.Test.YtkcjhfidgnbdiaaAppSrc
namespace Go.Proofs.Ytkcjhfidgnbdiaa
set_option linter.unusedSimpArgs false
open Go.RowKit
set_option linter.unusedVariables false

theorem markGivenS_nil (k : Int) (w : World) : Calls Try.prog 54 #[.slice none 0 0, .int .i64 k] w fun e w' => e = .returned (.int .i64 k) ∧ Ext w w' := by
  go_enter Try.func54, Try.ntmps54
  go_wp2_with fail
  refine wp_loop_rounds 1 ?_
  rw [rounds_succ]
  go_wp2_with fail
  go_ret
  exact ⟨rfl, Below.refl _ _⟩
theorem markGivenS_own {W w : World} {v : Value} {l : List GivenD} (h : OwnF GivenD.cells 7 123 W w v l) (hW : W.heap.size ≤ w.heap.size) (hl : l.length ≤ 1048576) :
    Calls Try.prog 54 #[v, .int .i64 1] w fun e w' => e = .returned (.int .i64 ((1 + l.length * 7 : Nat) : Int)) ∧ (∃ A c, v = .slice A l.length c ∧ ReadsL w' w'.heap.size GivenD.cells 7 A (GivenD.mkL 1 l.length)) ∧ Below W.heap.size w w' := by
  rcases h.2 with ⟨h1, h2⟩ | ⟨g, cap, cur, hv, hg, hh, hnc, hm, hs, ht⟩
  · rw [h1, h2]
    refine (markGivenS_nil 1 w).mono ?_
    rintro e w' ⟨rfl, h3⟩
    exact ⟨rfl, ⟨none, 0, rfl, by simp [GivenD.mkL]; exact Reads.nil_⟩, h3.mono hW⟩
  · rw [hv]
    refine (markGivenS_any g l.length cap 1 cur w hh (by rw [hs]; exact Nat.mul_le_mul_right _ hnc) hl (by decide)).mono ?_
    rintro e w' ⟨rfl, h3, h4⟩
    refine ⟨rfl, ⟨_, cap, rfl, ?_⟩, ⟨h4.os, h4.tape, h4.output, h4.size, fun b hb => h4.block b (by omega) (by simp; omega)⟩⟩
    have := rowAt_reads (l := GivenD.mkL 1 l.length) (cs := cur) GivenD.cells_length (w := w') (g := g) (t := 123) (by rw [GivenD.mkL_len]; exact h3)
    exact this
end Go.Proofs.Ytkcjhfidgnbdiaa
