/-
  The program's ShowEvent returns what the reference's returns, for all arguments, where the library's tables hold what the card ties to the program's text. No other condition.
-/
import Derived.Test.YteaphajagmbllaaDoorRows
import Derived.Test.YteaphajagmbllaaDoorTie
import Derived.Test.YteaphajagmbllaaDoorCards
import Derived.Test.YteaphajagmbllaaDoorFacts
import Derived.Test.YteaphajagmbllaaDoorLiftL
import Derived.Test.YteaphajagmbllaaDoorShowEv
import Derived.MakeChecks
import Derived.Stop.LaidErr
import Derived.SevenTiedAt
namespace Go.Proofs.YteaphajagmbllaaDoor
open Go.RowKit Go.WideShapes Go.ChangeAt
set_option linter.unusedVariables false

set_option maxHeartbeats 1000000 in
theorem lawShowEvent_walk (d : EventD) (w : World) (hd : d.Ok) (ht : Tab w) :
    Calls Tryd.prog 3 #[.agg #[.int .i64 d.kind, .int .i64 d.who, .int .i64 d.leaf, .int .i64 d.code]] w fun e w' => e = .returned (.bool true) ∧ Ext w w' := by
  have K := Blk.new w 23 #[.int .i64 d.kind, .int .i64 d.who, .int .i64 d.leaf, .int .i64 d.code]
  have he := Ext.new (Below.refl w.heap.size w) (.cells #[.int .i64 d.kind, .int .i64 d.who, .int .i64 d.leaf, .int .i64 d.code] 23)
  obtain ⟨rc, rf⟩ := K.rules
  go_enter Tryd.func3, Tryd.ntmps3
  go_wp2_with fail
  obtain ⟨g, hg⟩ : ∃ g, g = w.heap.size := ⟨_, rfl⟩
  rw [← hg] at K rc rf
  rw [← hg]
  clear hg
  refine (toEvent_any d _).mono ?_
  rintro e w1 ⟨rfl, h1⟩
  replace K := K.ext h1; replace he := he.next h1; clear h1 rc rf
  obtain ⟨rc, rf⟩ := K.rules
  go_wp2_with fail
  refine (specShowEvent_any d _ hd).mono ?_
  rintro e w2 ⟨rfl, h1⟩
  replace K := K.ext h1; replace he := he.next h1; clear h1 rc rf
  obtain ⟨rc, rf⟩ := K.rules
  go_wp2_with fail
  refine (toEvent_any d _).mono ?_
  rintro e w3 ⟨rfl, h1⟩
  replace he := he.next h1; clear h1 rc rf K
  go_wp2_with fail
  refine (implShowEvent_any d _ hd (ht.ext he)).mono ?_
  rintro e w4 ⟨rfl, h1⟩
  replace he := he.next h1; clear h1
  generalize evLine d = s
  go_wp2_with fail
  go_ret
  exact ⟨rfl, he⟩
theorem tab_laid {W : World} (hL : laidMetH Tryd.prog Rows.fnExactShowEventRow.laid W) : Tab W := by
  rw [MakeChecks.laidMetH_plain _ _ _ (by kernel_rfl)] at hL
  have h3 := hL.tail.tail
  exact Lib.tabIs_of_head (g := 0) (t := 171) (e := 164) (n := 20) (by kernel_rfl) (by kernel_rfl) (by kernel_rfl) (by kernel_rfl) (by kernel_rfl) (by kernel_rfl) h3
theorem door_met (os : Os) (args : Array Value) : laidMetH Tryd.prog Rows.fnExactShowEventRow.laid ((World.doorLaid Tryd.prog 24 os).forCall (fun _ _ => 0) ⟨#[], args, []⟩).memory :=
  laidMetH_of_parts3 (fuel := 8) (laidMet_of_run' 8 (by kernel_rfl) (by kernel_rfl)) (by kernel_rfl) (by kernel_rfl)
set_option maxRecDepth 100000 in
theorem ShowEvent_row : Rows.FnExactShowEventSaid :=
  OpenClaim.holds_of_wide 3 Tryd.f3 rfl rfl rfl rfl rfl rfl rfl ⟨rfl, rfl, rfl, rfl, rfl⟩ rfl rfl rfl rfl rfl (by kernel_rfl) Tryd.func3 (by kernel_rfl)
    (of_decide_eq_true (by kernel_rfl)) (by unfold Func.isWrapper; first | (rw [if_pos (by decide +kernel)]; kernel_rfl) | (rw [if_neg (by decide +kernel)]; exact ⟨rfl, rfl⟩))
    (fun os started H enc _ => lawLiftedL (s := Rows.fnExactShowEventSpec) (C := Tryd.checked) (tb := 4) Rows.fnExactShowEventRow.laid own laidOut started (by kernel_rfl) Tryd.func3 (by kernel_rfl) rfl rfl Tryd.underlying4
      (fun ds h => by match ds, h with | [d0], _ => rfl)
      (ChangeSpec.witness_shaped (enc := enc) (C := Tryd.checked) (os := os) (X := fun w _ => laidMetH Tryd.prog Rows.fnExactShowEventRow.laid w) false (World.doorLaid Tryd.prog 24 os) #[.agg #[.int .i64 0, .int .i64 0, .int .i64 0, .int .i64 0]] 8 rfl (World.shaped_of_RefB (by kernel_rfl) (by kernel_rfl)) (by kernel_rfl) (by kernel_rfl) (by kernel_rfl) (door_met os _))
      (fun W args h hL => by
        have hs := h.size
        obtain ⟨l⟩ := args
        match l, hs with
        | [v0], _ =>
          obtain ⟨base0, n0, o0, t0⟩ := h.arg 0 23 v0 rfl rfl
          obtain ⟨cs0, rfl, _⟩ := okWide_struct Tryd.underlying23 o0
          obtain ⟨a, e0, ha⟩ := EventD.typed t0
          obtain rfl : cs0 = a.cells.toArray := by have h2 : cs0.toList = a.cells := e0; rw [← h2]
          exact lawShowEvent_walk a W ha (tab_laid hL)))
theorem ShowEvent_holds : Rows.FnExactShowEventCardSaid :=
  Claim7.holds_tied_plain_at .later [] [.data, .data, .data] true (true, "b11d01f1b0319e00831df405679a67103ad6d5046fff415ff21e976157e216ff") false
    ShowEvent_row (fun _ h => by cases h) (by kernel_rfl) (fun _ h => by cases h) fnExactShowEvent_row_tie rfl ⟨rfl, rfl⟩ (by kernel_rfl) rfl
    (fun f fn hf hfn => by
      obtain rfl : f = 3 := Option.some.inj ((show Tryd.prog.funcNamed "loop.example/g00074/laws.FnExactShowEvent" = some 3 by kernel_rfl).symm.trans hf) |>.symm
      obtain rfl : fn = Tryd.f3 := (Option.some.inj (Tryd.func3.symm.trans hfn)).symm
      exact ⟨by kernel_rfl, fun j t ht => by
        have hm : t ∈ [23] := by simpa using Array.mem_of_getElem? ht
        have hall : ([23].all fun u => !Tryd.prog.wantsStandIn u) = true := by kernel_rfl
        exact (show Tryd.prog.wantsStandIn t = false by simpa using List.all_eq_true.1 hall t hm)⟩)
    (by kernel_rfl)
#print axioms ShowEvent_holds
end Go.Proofs.YteaphajagmbllaaDoor
