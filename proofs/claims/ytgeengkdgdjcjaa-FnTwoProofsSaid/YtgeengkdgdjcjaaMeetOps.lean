/-
  PathI3; TextsI; Reread; Frames; Unfr; MeetOps: No condition.
-/
import Derived.Test.YtgeengkdgdjcjaaPathI2
import Derived.Test.YtgeengkdgdjcjaaTexts
import Derived.Test.YtgeengkdgdjcjaaNString
import Derived.Test.YtgeengkdgdjcjaaHashTop
import Derived.Test.YtgeengkdgdjcjaaSpecDigest
import Derived.Test.YtgeengkdgdjcjaaSpecPad
import Derived.Test.YtgeengkdgdjcjaaMeetLaw
namespace Go.Proofs.Ytgeengkdgdjcjaa
set_option linter.unusedSimpArgs false
open Go.RowKit
set_option linter.unusedVariables false
theorem ImplRootBy_any (wd n a : Int) (leaf : ByteArray) (A : Option Addr) (c : Nat) (l : List ByteArray) (w : World) (hlf : leaf.size ≤ maxLen) (hlc : l.length ≤ c) (hl : l.length ≤ 1048576) (hr : ReadsL w w.heap.size sone 1 A l) :
 Calls Try.prog 24 #[.int .i64 wd, .int .i64 n, .int .i64 a, .string leaf, .slice A l.length c] w fun e w' => e = .returned (.tuple #[.string (rootIn wd n a leaf l), .bool (inOk wd n a leaf l)]) ∧ Ext w w' := by
 go_enter Try.func24, Try.ntmps24
 go_wp2_with fail
 refine (rootBy_any _ _ _ _ _ _ _ _ hlf hlc hl hr).mono ?_
 rintro e w1 ⟨v, rfl, _, h1⟩
 go_wp2_with fail
 go_ret2
 exact ⟨rfl, h1⟩
theorem CheckIn_any (wd : Int) (root : ByteArray) (n a : Int) (leaf : ByteArray) (A : Option Addr) (c : Nat) (l : List ByteArray) (w : World) (hlf : leaf.size ≤ maxLen) (hlc : l.length ≤ c) (hl : l.length ≤ 1048576) (hr : ReadsL w w.heap.size sone 1 A l) :
 Calls Try.prog 11 #[.int .i64 wd, .string root, .int .i64 n, .int .i64 a, .string leaf, .slice A l.length c] w fun e w' => e = .returned (.bool (checkIn wd root n a leaf l)) ∧ Ext w w' := by
 cases b1 : inOk wd n a leaf l
 · have E := hU (show checkIn wd root n a leaf l = false by simp [checkIn, b1])
   go_enter Try.func11, Try.ntmps11
   go_wp2_with fail
   refine (ImplRootBy_any _ _ _ _ _ _ _ _ hlf hlc hl hr).mono ?_
   rintro e w1 ⟨rfl, h1⟩
   rw [b1]
   go_wp2_with fail
   go_ret
   exact ⟨ret_bool E.out.symm, h1⟩
 · cases b2 : ((rootIn wd n a leaf l).toList == root.toList)
   all_goals
    have E := hU (show checkIn wd root n a leaf l = _ by rw [checkIn, b1, b2, Bool.true_and])
    go_enter Try.func11, Try.ntmps11
    go_wp2_with fail
    refine (ImplRootBy_any _ _ _ _ _ _ _ _ hlf hlc hl hr).mono ?_
    rintro e w1 ⟨rfl, h1⟩
    rw [b1]
    go_wp2_with fail
    go_ret
    exact ⟨ret_bool E.out.symm, h1⟩
theorem implTextsIn_any (wd n a : Int) (leaf : ByteArray) (A : Option Addr) (c : Nat) (l : List ByteArray) (w : World) (hlf : leaf.size ≤ maxLen) (hlc : l.length ≤ c) (hl : l.length ≤ 1048576) (hr : ReadsL w w.heap.size sone 1 A l) :
 Calls Try.prog 12 #[.int .i64 wd, .int .i64 n, .int .i64 a, .string leaf, .slice A l.length c] w fun e w' => ∃ v, e = .returned (.tuple #[v, .bool (inOk wd n a leaf l)]) ∧ OwnT w.heap.size w' v (textsIn wd n a leaf l) ∧ Ext w w' := by
 go_enter Try.func12, Try.ntmps12
 go_wp2_with fail
 refine (rootBy_any _ _ _ _ _ _ _ _ hlf hlc hl hr).mono ?_
 rintro e w1 ⟨v, rfl, ho, h1⟩
 have HO := hU ho; clear ho
 go_wp2_with fail
 go_ret2
 exact ⟨_, rfl, HO.out, h1⟩



theorem ret_rows_tmp {P : Program} {fn : Func} {R : Ending → World → Prop} {a : Act} {w : World} {p q u : Tmp} {ty g g' t : Nat} {cs cs' : Array Value} {d : TypeDesc} (h : fn.results = #[.cell p ty, .cell q ty, .tmp u])
 (hp : a.tmps.getD p undef = .pointer (some ⟨g, 0, none⟩)) (hq : a.tmps.getD q undef = .pointer (some ⟨g', 0, none⟩)) (hB : Blk w g t cs) (hB' : Blk w g' t cs') (hu : P.underlying ty = some d) (hd : (match d with | .struct _ | .array _ _ => true | _ => false) = true) (hi : (P.info? ty).map (·.size) = some cs.size) (hi' : (P.info? ty).map (·.size) = some cs'.size)
 (hdef : a.defers = []) (hR : R (.returned (.tuple #[.agg cs, .agg cs', a.tmps.getD u undef])) w) : bodyPost P fn R .ret a w := by
 refine bodyPost_ret (v := .tuple #[.agg cs, .agg cs', a.tmps.getD u undef]) ?_ hdef hR
 have h1 := run_loadVar_row w g t ty cs (0, 0) d hB hu hd hi
 have h2 := run_loadVar_row w g' t ty cs' (0, 0) d hB' hu hd hi'
 simp only [results, h]
 rw [show (#[ResultVar.cell p ty, ResultVar.cell q ty, ResultVar.tmp u] : Array ResultVar) = #[.cell p ty, .cell q ty, .tmp u] from rfl]
 simp [Sem.run_bind, Result.andThen]
 have hp' : a.tmps[p]?.getD undef = .pointer (some ⟨g, 0, none⟩) := by rw [← hp]; simp
 have hq' : a.tmps[q]?.getD undef = .pointer (some ⟨g', 0, none⟩) := by rw [← hq]; simp
 rw [hp', hq']
 simp [asAddr, Sem.run_pure, Result.andThen, h1, h2]
end Go.Proofs.Ytgeengkdgdjcjaa
