/-
  Worlds as opaque lists of cells: contracts. Written by program (gen_showworld3.py). No condition.
-/
import Derived.Test.YtichegndafnjeaaDoorNWorld
import Derived.Test.YtichegndafnjeaaDoorStoreL
namespace Go.Proofs.YtichegndafnjeaaDoor
set_option linter.unusedSimpArgs false
open Go.RowKit
set_option linter.unusedVariables false

theorem WorldD.one {p : Nat → Prop} {w : World} {cs : List Value} {d : WorldD} (h : WorldD.In p w cs d) : cs.all (·.oneCell') = true := by
  obtain ⟨A0, c0, A1, c1, A2, c2, A3, c3, A4, c4, A5, c5, A6, c6, A7, c7, A8, c8, rfl, _⟩ := h; rfl
theorem WorldD.inExt {p : Nat → Prop} {w w' : World} {cs : List Value} {d : WorldD} (h : WorldD.In p w cs d) (he : Ext w w') : WorldD.In p w' cs d := WorldD.steady.1 h (he.keep p)
theorem WorldD.inAny {p : Nat → Prop} {w : World} {cs : List Value} {d : WorldD} (h : WorldD.In p w cs d) : WorldD.In AnyB w cs d := WorldD.steady.2 h (fun _ _ => trivial)
theorem szWorld_in (d : WorldD) (cs : List Value) (left : Int) (w : World) (hok : d.Ok) (h : WorldD.In AnyB w cs d) (h0 : 0 ≤ left) (h1 : left ≤ 1048576) :
    Calls Tryd.prog 4 #[.agg cs.toArray, .int .i64 left] w fun e w' => e = .returned (.int .i64 (szL d.lens left)) ∧ Ext w w' := by
  obtain ⟨A0, c0, A1, c1, A2, c2, A3, c3, A4, c4, A5, c5, A6, c6, A7, c7, A8, c8, rfl, s0, s1, s2, s3, s4, s5, s6, s7, s8⟩ := h
  exact szWorld_any d A0 c0 A1 c1 A2 c2 A3 c3 A4 c4 A5 c5 A6 c6 A7 c7 A8 c8 left w hok s0 s1 s2 s3 s4 s5 s6 s7 s8 h0 h1
theorem toWorld_in (d : WorldD) (cs : List Value) (w : World) (h : WorldD.In AnyB w cs d) (hf : ∀ n ∈ d.lens, n ≤ 1048576) :
    Calls Tryd.prog 6 #[.agg cs.toArray] w fun e w' => ∃ cs', e = .returned (.agg cs'.toArray) ∧ WorldD.In (FromB w.heap.size) w' cs' d ∧ Ext w w' := by
  obtain ⟨A0, c0, A1, c1, A2, c2, A3, c3, A4, c4, A5, c5, A6, c6, A7, c7, A8, c8, rfl, s0, s1, s2, s3, s4, s5, s6, s7, s8⟩ := h
  exact toWorld_any d A0 c0 A1 c1 A2 c2 A3 c3 A4 c4 A5 c5 A6 c6 A7 c7 A8 c8 w s0 s1 s2 s3 s4 s5 s6 s7 s8 hf
theorem eqWorld_in (d : WorldD) (cs cs' : List Value) (w : World) (h : WorldD.In AnyB w cs d) (h' : WorldD.In AnyB w cs' d) (hf : ∀ n ∈ d.lens, n ≤ 1048576) :
    Calls Tryd.prog 8 #[.agg cs.toArray, .agg cs'.toArray] w fun e w' => e = .returned (.bool true) ∧ Ext w w' := by
  obtain ⟨A0, c0, A1, c1, A2, c2, A3, c3, A4, c4, A5, c5, A6, c6, A7, c7, A8, c8, rfl, s0, s1, s2, s3, s4, s5, s6, s7, s8⟩ := h
  obtain ⟨B0, e0, B1, e1, B2, e2, B3, e3, B4, e4, B5, e5, B6, e6, B7, e7, B8, e8, rfl, t0, t1, t2, t3, t4, t5, t6, t7, t8⟩ := h'
  exact eqWorld_same d A0 c0 A1 c1 A2 c2 A3 c3 A4 c4 A5 c5 A6 c6 A7 c7 A8 c8 B0 e0 B1 e1 B2 e2 B3 e3 B4 e4 B5 e5 B6 e6 B7 e7 B8 e8 w s0 s1 s2 s3 s4 s5 s6 s7 s8 t0 t1 t2 t3 t4 t5 t6 t7 t8 hf
end Go.Proofs.YtichegndafnjeaaDoor
