/-
  markStringS, heldStringS at a row of the call's own, nil or not. No condition.
-/
import Derived.Test.YtaicjimppcledaaMarkSS
namespace Go.Proofs.Ytaicjimppcledaa
open Go.RowKit
set_option linter.unusedVariables false

def Marked (w : World) (v : Value) (n : Nat) : Prop := (v = .slice none 0 0 ∧ n = 0) ∨ ∃ g c cs, v = .slice (some ⟨g, 0, none⟩) n c ∧ Blk w g 9 (mkd cs 1 n) ∧ n ≤ cs.size
theorem Marked.ext {w w' : World} {v : Value} {n : Nat} (h : Marked w v n) (he : Ext w w') : Marked w' v n := by
  rcases h with h | ⟨g, c, cs, h1, h2, h3⟩
  · exact .inl h
  · exact .inr ⟨g, c, cs, h1, h2.ext he, h3⟩
theorem markStringS_nil (k : Int) (w : World) : Calls Try.prog 40 #[.slice none 0 0, .int .i64 k] w fun e w' => e = .returned (.int .i64 k) ∧ Ext w w' := by
  go_enter Try.func40, Try.ntmps40
  go_wp2_with fail
  refine wp_loop_rounds 1 ?_
  rw [rounds_succ]
  go_wp2_with fail
  go_ret
  exact ⟨rfl, Below.refl _ _⟩
theorem heldStringS_nil (k : Int) (w : World) : Calls Try.prog 41 #[.slice none 0 0, .int .i64 k] w fun e w' => e = .returned (.int .i64 k) ∧ Ext w w' := by
  go_enter Try.func41, Try.ntmps41
  go_wp2_with fail
  refine wp_loop_rounds 1 ?_
  rw [rounds_succ]
  go_wp2_with fail
  go_ret
  exact ⟨rfl, Below.refl _ _⟩
theorem mark_own {W w : World} {v : Value} {l : List ByteArray} (h : OwnS W w v l) (hl : l.length ≤ 1000) (he : Ext W w) :
    Calls Try.prog 40 #[v, .int .i64 1] w fun e w' => e = .returned (.int .i64 ((1 + l.length : Nat) : Int)) ∧ Marked w' v l.length ∧ Ext W w' := by
  rcases h.2 with ⟨h1, h2⟩ | ⟨g, cap, cur, hv, hg, hh, hnc, hm, hs, ht⟩
  · rw [h1]
    refine (markStringS_nil 1 w).mono ?_
    rintro e w' ⟨rfl, h3⟩
    refine ⟨by rw [h2]; rfl, .inl ⟨rfl, h2⟩, he.next h3⟩
  · rw [hv]
    have hn : l.length ≤ cur.size := by rw [hs]; omega
    refine (markStringS_any g l.length cap 1 cur w hh hn hl (by decide)).mono ?_
    rintro e w' ⟨rfl, h3, h4⟩
    exact ⟨rfl, .inr ⟨g, cap, cur, rfl, h3, hn⟩, he.nextBut hg h4⟩
theorem held_own {w : World} {v : Value} {n : Nat} (h : Marked w v n) (hl : n ≤ 1000) :
    Calls Try.prog 41 #[v, .int .i64 1] w fun e w' => e = .returned (.int .i64 ((1 + n : Nat) : Int)) ∧ Ext w w' := by
  rcases h with ⟨rfl, rfl⟩ | ⟨g, c, cs, rfl, h2, h3⟩
  · exact heldStringS_nil 1 w
  · exact heldStringS_any g n c 1 cs w h2 h3 hl (by decide)
end Go.Proofs.Ytaicjimppcledaa
