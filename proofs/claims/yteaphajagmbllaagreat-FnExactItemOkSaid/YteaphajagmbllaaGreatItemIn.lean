/-
  Items as opaque lists of cells: contracts. Written by program (gen_lawbig.py). No condition.
-/
import Derived.Test.YteaphajagmbllaaGreatNItem
import Derived.Test.YteaphajagmbllaaGreatStoreL
namespace Go.Proofs.YteaphajagmbllaaGreat
open Go.RowKit
set_option linter.unusedVariables false

theorem ItemD.one {p : Nat → Prop} {w : World} {cs : List Value} {d : ItemD} (h : ItemD.In p w cs d) : cs.all (·.oneCell') = true := by
  obtain ⟨A0, c0, A1, c1, rfl, _⟩ := h; rfl
theorem ItemD.inExt {p : Nat → Prop} {w w' : World} {cs : List Value} {d : ItemD} (h : ItemD.In p w cs d) (he : Ext w w') : ItemD.In p w' cs d := ItemD.steady.1 h (he.keep p)
theorem ItemD.inAny {p : Nat → Prop} {w : World} {cs : List Value} {d : ItemD} (h : ItemD.In p w cs d) : ItemD.In AnyB w cs d := ItemD.steady.2 h (fun _ _ => trivial)
theorem szItem_in (d : ItemD) (cs : List Value) (left : Int) (w : World) (hok : d.Ok) (h : ItemD.In AnyB w cs d) (h0 : 0 ≤ left) (h1 : left ≤ 1048576) :
    Calls Tryz.prog 4 #[.agg cs.toArray, .int .i64 left] w fun e w' => e = .returned (.int .i64 (szL d.lens left)) ∧ Ext w w' := by
  obtain ⟨A0, c0, A1, c1, rfl, s0, s1⟩ := h
  exact szItem_any d A0 c0 A1 c1 left w hok s0 s1 h0 h1
theorem toItem_in (d : ItemD) (cs : List Value) (w : World) (h : ItemD.In AnyB w cs d) (hf : ∀ n ∈ d.lens, n ≤ 1048576) :
    Calls Tryz.prog 6 #[.agg cs.toArray] w fun e w' => ∃ cs', e = .returned (.agg cs'.toArray) ∧ ItemD.In (FromB w.heap.size) w' cs' d ∧ Ext w w' := by
  obtain ⟨A0, c0, A1, c1, rfl, s0, s1⟩ := h
  exact toItem_any d A0 c0 A1 c1 w s0 s1 hf
theorem eqItem_in (d : ItemD) (cs cs' : List Value) (w : World) (h : ItemD.In AnyB w cs d) (h' : ItemD.In AnyB w cs' d) (hf : ∀ n ∈ d.lens, n ≤ 1048576) :
    Calls Tryz.prog 8 #[.agg cs.toArray, .agg cs'.toArray] w fun e w' => e = .returned (.bool true) ∧ Ext w w' := by
  obtain ⟨A0, c0, A1, c1, rfl, s0, s1⟩ := h
  obtain ⟨B0, e0, B1, e1, rfl, t0, t1⟩ := h'
  exact eqItem_same d A0 c0 A1 c1 B0 e0 B1 e1 w s0 s1 t0 t1 hf
end Go.Proofs.YteaphajagmbllaaGreat
