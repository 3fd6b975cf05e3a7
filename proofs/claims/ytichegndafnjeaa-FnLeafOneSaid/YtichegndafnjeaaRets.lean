/-
  Returns of several results, some of them struct variables that are known whole. Written by program (gen_rets.py). No condition.
-/
import Derived.Test.YtichegndafnjeaaMem
namespace Go.Proofs.Ytichegndafnjeaa
open Go.RowKit
set_option linter.unusedVariables false

theorem ret_ctt {P : Program} {fn : Func} {R : Ending → World → Prop} {a : Act} {w : World} {s0 s1 s2 : Tmp} {ty0 g0 t0 : Nat} {cs0 : Array Value} {d0 : TypeDesc} (h : fn.results = #[.cell s0 ty0, .tmp s1, .tmp s2])
    (hp0 : a.tmps.getD s0 undef = .pointer (some ⟨g0, 0, none⟩)) (hB0 : Blk w g0 t0 cs0) (hu0 : P.underlying ty0 = some d0) (hd0 : (match d0 with | .struct _ | .array _ _ => true | _ => false) = true) (hi0 : (P.info? ty0).map (·.size) = some cs0.size)
    (hdef : a.defers = []) (hR : R (.returned (.tuple #[.agg cs0, a.tmps.getD s1 undef, a.tmps.getD s2 undef])) w) : bodyPost P fn R .ret a w := by
  refine bodyPost_ret (v := .tuple #[.agg cs0, a.tmps.getD s1 undef, a.tmps.getD s2 undef]) ?_ hdef hR
  have h0 := run_loadVar_row w g0 t0 ty0 cs0 (0, 0) d0 hB0 hu0 hd0 hi0
  simp only [results, h]
  rw [show (#[ResultVar.cell s0 ty0, ResultVar.tmp s1, ResultVar.tmp s2] : Array ResultVar) = #[.cell s0 ty0, .tmp s1, .tmp s2] from rfl]
  simp [Sem.run_bind, Result.andThen]
  have hp0' : a.tmps[s0]?.getD undef = .pointer (some ⟨g0, 0, none⟩) := by rw [← hp0]; simp
  rw [hp0']
  simp [asAddr, Sem.run_pure, Result.andThen, h0]
theorem ret_cttt {P : Program} {fn : Func} {R : Ending → World → Prop} {a : Act} {w : World} {s0 s1 s2 s3 : Tmp} {ty0 g0 t0 : Nat} {cs0 : Array Value} {d0 : TypeDesc} (h : fn.results = #[.cell s0 ty0, .tmp s1, .tmp s2, .tmp s3])
    (hp0 : a.tmps.getD s0 undef = .pointer (some ⟨g0, 0, none⟩)) (hB0 : Blk w g0 t0 cs0) (hu0 : P.underlying ty0 = some d0) (hd0 : (match d0 with | .struct _ | .array _ _ => true | _ => false) = true) (hi0 : (P.info? ty0).map (·.size) = some cs0.size)
    (hdef : a.defers = []) (hR : R (.returned (.tuple #[.agg cs0, a.tmps.getD s1 undef, a.tmps.getD s2 undef, a.tmps.getD s3 undef])) w) : bodyPost P fn R .ret a w := by
  refine bodyPost_ret (v := .tuple #[.agg cs0, a.tmps.getD s1 undef, a.tmps.getD s2 undef, a.tmps.getD s3 undef]) ?_ hdef hR
  have h0 := run_loadVar_row w g0 t0 ty0 cs0 (0, 0) d0 hB0 hu0 hd0 hi0
  simp only [results, h]
  rw [show (#[ResultVar.cell s0 ty0, ResultVar.tmp s1, ResultVar.tmp s2, ResultVar.tmp s3] : Array ResultVar) = #[.cell s0 ty0, .tmp s1, .tmp s2, .tmp s3] from rfl]
  simp [Sem.run_bind, Result.andThen]
  have hp0' : a.tmps[s0]?.getD undef = .pointer (some ⟨g0, 0, none⟩) := by rw [← hp0]; simp
  rw [hp0']
  simp [asAddr, Sem.run_pure, Result.andThen, h0]
theorem ret_tttc {P : Program} {fn : Func} {R : Ending → World → Prop} {a : Act} {w : World} {s0 s1 s2 s3 : Tmp} {ty3 g3 t3 : Nat} {cs3 : Array Value} {d3 : TypeDesc} (h : fn.results = #[.tmp s0, .tmp s1, .tmp s2, .cell s3 ty3])
    (hp3 : a.tmps.getD s3 undef = .pointer (some ⟨g3, 0, none⟩)) (hB3 : Blk w g3 t3 cs3) (hu3 : P.underlying ty3 = some d3) (hd3 : (match d3 with | .struct _ | .array _ _ => true | _ => false) = true) (hi3 : (P.info? ty3).map (·.size) = some cs3.size)
    (hdef : a.defers = []) (hR : R (.returned (.tuple #[a.tmps.getD s0 undef, a.tmps.getD s1 undef, a.tmps.getD s2 undef, .agg cs3])) w) : bodyPost P fn R .ret a w := by
  refine bodyPost_ret (v := .tuple #[a.tmps.getD s0 undef, a.tmps.getD s1 undef, a.tmps.getD s2 undef, .agg cs3]) ?_ hdef hR
  have h3 := run_loadVar_row w g3 t3 ty3 cs3 (0, 0) d3 hB3 hu3 hd3 hi3
  simp only [results, h]
  rw [show (#[ResultVar.tmp s0, ResultVar.tmp s1, ResultVar.tmp s2, ResultVar.cell s3 ty3] : Array ResultVar) = #[.tmp s0, .tmp s1, .tmp s2, .cell s3 ty3] from rfl]
  simp [Sem.run_bind, Result.andThen]
  have hp3' : a.tmps[s3]?.getD undef = .pointer (some ⟨g3, 0, none⟩) := by rw [← hp3]; simp
  rw [hp3']
  simp [asAddr, Sem.run_pure, Result.andThen, h3]
theorem ret_cct {P : Program} {fn : Func} {R : Ending → World → Prop} {a : Act} {w : World} {s0 s1 s2 : Tmp} {ty0 g0 t0 ty1 g1 t1 : Nat} {cs0 cs1 : Array Value} {d0 d1 : TypeDesc} (h : fn.results = #[.cell s0 ty0, .cell s1 ty1, .tmp s2])
    (hp0 : a.tmps.getD s0 undef = .pointer (some ⟨g0, 0, none⟩)) (hB0 : Blk w g0 t0 cs0) (hu0 : P.underlying ty0 = some d0) (hd0 : (match d0 with | .struct _ | .array _ _ => true | _ => false) = true) (hi0 : (P.info? ty0).map (·.size) = some cs0.size) (hp1 : a.tmps.getD s1 undef = .pointer (some ⟨g1, 0, none⟩)) (hB1 : Blk w g1 t1 cs1) (hu1 : P.underlying ty1 = some d1) (hd1 : (match d1 with | .struct _ | .array _ _ => true | _ => false) = true) (hi1 : (P.info? ty1).map (·.size) = some cs1.size)
    (hdef : a.defers = []) (hR : R (.returned (.tuple #[.agg cs0, .agg cs1, a.tmps.getD s2 undef])) w) : bodyPost P fn R .ret a w := by
  refine bodyPost_ret (v := .tuple #[.agg cs0, .agg cs1, a.tmps.getD s2 undef]) ?_ hdef hR
  have h0 := run_loadVar_row w g0 t0 ty0 cs0 (0, 0) d0 hB0 hu0 hd0 hi0
  have h1 := run_loadVar_row w g1 t1 ty1 cs1 (0, 0) d1 hB1 hu1 hd1 hi1
  simp only [results, h]
  rw [show (#[ResultVar.cell s0 ty0, ResultVar.cell s1 ty1, ResultVar.tmp s2] : Array ResultVar) = #[.cell s0 ty0, .cell s1 ty1, .tmp s2] from rfl]
  simp [Sem.run_bind, Result.andThen]
  have hp0' : a.tmps[s0]?.getD undef = .pointer (some ⟨g0, 0, none⟩) := by rw [← hp0]; simp
  have hp1' : a.tmps[s1]?.getD undef = .pointer (some ⟨g1, 0, none⟩) := by rw [← hp1]; simp
  rw [hp0', hp1']
  simp [asAddr, Sem.run_pure, Result.andThen, h0, h1]
theorem ret_ccct {P : Program} {fn : Func} {R : Ending → World → Prop} {a : Act} {w : World} {s0 s1 s2 s3 : Tmp} {ty0 g0 t0 ty1 g1 t1 ty2 g2 t2 : Nat} {cs0 cs1 cs2 : Array Value} {d0 d1 d2 : TypeDesc} (h : fn.results = #[.cell s0 ty0, .cell s1 ty1, .cell s2 ty2, .tmp s3])
    (hp0 : a.tmps.getD s0 undef = .pointer (some ⟨g0, 0, none⟩)) (hB0 : Blk w g0 t0 cs0) (hu0 : P.underlying ty0 = some d0) (hd0 : (match d0 with | .struct _ | .array _ _ => true | _ => false) = true) (hi0 : (P.info? ty0).map (·.size) = some cs0.size) (hp1 : a.tmps.getD s1 undef = .pointer (some ⟨g1, 0, none⟩)) (hB1 : Blk w g1 t1 cs1) (hu1 : P.underlying ty1 = some d1) (hd1 : (match d1 with | .struct _ | .array _ _ => true | _ => false) = true) (hi1 : (P.info? ty1).map (·.size) = some cs1.size) (hp2 : a.tmps.getD s2 undef = .pointer (some ⟨g2, 0, none⟩)) (hB2 : Blk w g2 t2 cs2) (hu2 : P.underlying ty2 = some d2) (hd2 : (match d2 with | .struct _ | .array _ _ => true | _ => false) = true) (hi2 : (P.info? ty2).map (·.size) = some cs2.size)
    (hdef : a.defers = []) (hR : R (.returned (.tuple #[.agg cs0, .agg cs1, .agg cs2, a.tmps.getD s3 undef])) w) : bodyPost P fn R .ret a w := by
  refine bodyPost_ret (v := .tuple #[.agg cs0, .agg cs1, .agg cs2, a.tmps.getD s3 undef]) ?_ hdef hR
  have h0 := run_loadVar_row w g0 t0 ty0 cs0 (0, 0) d0 hB0 hu0 hd0 hi0
  have h1 := run_loadVar_row w g1 t1 ty1 cs1 (0, 0) d1 hB1 hu1 hd1 hi1
  have h2 := run_loadVar_row w g2 t2 ty2 cs2 (0, 0) d2 hB2 hu2 hd2 hi2
  simp only [results, h]
  rw [show (#[ResultVar.cell s0 ty0, ResultVar.cell s1 ty1, ResultVar.cell s2 ty2, ResultVar.tmp s3] : Array ResultVar) = #[.cell s0 ty0, .cell s1 ty1, .cell s2 ty2, .tmp s3] from rfl]
  simp [Sem.run_bind, Result.andThen]
  have hp0' : a.tmps[s0]?.getD undef = .pointer (some ⟨g0, 0, none⟩) := by rw [← hp0]; simp
  have hp1' : a.tmps[s1]?.getD undef = .pointer (some ⟨g1, 0, none⟩) := by rw [← hp1]; simp
  have hp2' : a.tmps[s2]?.getD undef = .pointer (some ⟨g2, 0, none⟩) := by rw [← hp2]; simp
  rw [hp0', hp1', hp2']
  simp [asAddr, Sem.run_pure, Result.andThen, h0, h1, h2]
theorem ret_ttct {P : Program} {fn : Func} {R : Ending → World → Prop} {a : Act} {w : World} {s0 s1 s2 s3 : Tmp} {ty2 g2 t2 : Nat} {cs2 : Array Value} {d2 : TypeDesc} (h : fn.results = #[.tmp s0, .tmp s1, .cell s2 ty2, .tmp s3])
    (hp2 : a.tmps.getD s2 undef = .pointer (some ⟨g2, 0, none⟩)) (hB2 : Blk w g2 t2 cs2) (hu2 : P.underlying ty2 = some d2) (hd2 : (match d2 with | .struct _ | .array _ _ => true | _ => false) = true) (hi2 : (P.info? ty2).map (·.size) = some cs2.size)
    (hdef : a.defers = []) (hR : R (.returned (.tuple #[a.tmps.getD s0 undef, a.tmps.getD s1 undef, .agg cs2, a.tmps.getD s3 undef])) w) : bodyPost P fn R .ret a w := by
  refine bodyPost_ret (v := .tuple #[a.tmps.getD s0 undef, a.tmps.getD s1 undef, .agg cs2, a.tmps.getD s3 undef]) ?_ hdef hR
  have h2 := run_loadVar_row w g2 t2 ty2 cs2 (0, 0) d2 hB2 hu2 hd2 hi2
  simp only [results, h]
  rw [show (#[ResultVar.tmp s0, ResultVar.tmp s1, ResultVar.cell s2 ty2, ResultVar.tmp s3] : Array ResultVar) = #[.tmp s0, .tmp s1, .cell s2 ty2, .tmp s3] from rfl]
  simp [Sem.run_bind, Result.andThen]
  have hp2' : a.tmps[s2]?.getD undef = .pointer (some ⟨g2, 0, none⟩) := by rw [← hp2]; simp
  rw [hp2']
  simp [asAddr, Sem.run_pure, Result.andThen, h2]
theorem ret_cc {P : Program} {fn : Func} {R : Ending → World → Prop} {a : Act} {w : World} {s0 s1 : Tmp} {ty0 g0 t0 ty1 g1 t1 : Nat} {cs0 cs1 : Array Value} {d0 d1 : TypeDesc} (h : fn.results = #[.cell s0 ty0, .cell s1 ty1])
    (hp0 : a.tmps.getD s0 undef = .pointer (some ⟨g0, 0, none⟩)) (hB0 : Blk w g0 t0 cs0) (hu0 : P.underlying ty0 = some d0) (hd0 : (match d0 with | .struct _ | .array _ _ => true | _ => false) = true) (hi0 : (P.info? ty0).map (·.size) = some cs0.size) (hp1 : a.tmps.getD s1 undef = .pointer (some ⟨g1, 0, none⟩)) (hB1 : Blk w g1 t1 cs1) (hu1 : P.underlying ty1 = some d1) (hd1 : (match d1 with | .struct _ | .array _ _ => true | _ => false) = true) (hi1 : (P.info? ty1).map (·.size) = some cs1.size)
    (hdef : a.defers = []) (hR : R (.returned (.tuple #[.agg cs0, .agg cs1])) w) : bodyPost P fn R .ret a w := by
  refine bodyPost_ret (v := .tuple #[.agg cs0, .agg cs1]) ?_ hdef hR
  have h0 := run_loadVar_row w g0 t0 ty0 cs0 (0, 0) d0 hB0 hu0 hd0 hi0
  have h1 := run_loadVar_row w g1 t1 ty1 cs1 (0, 0) d1 hB1 hu1 hd1 hi1
  simp only [results, h]
  rw [show (#[ResultVar.cell s0 ty0, ResultVar.cell s1 ty1] : Array ResultVar) = #[.cell s0 ty0, .cell s1 ty1] from rfl]
  simp [Sem.run_bind, Result.andThen]
  have hp0' : a.tmps[s0]?.getD undef = .pointer (some ⟨g0, 0, none⟩) := by rw [← hp0]; simp
  have hp1' : a.tmps[s1]?.getD undef = .pointer (some ⟨g1, 0, none⟩) := by rw [← hp1]; simp
  rw [hp0', hp1']
  simp [asAddr, Sem.run_pure, Result.andThen, h0, h1]
theorem ret_ctc {P : Program} {fn : Func} {R : Ending → World → Prop} {a : Act} {w : World} {s0 s1 s2 : Tmp} {ty0 g0 t0 ty2 g2 t2 : Nat} {cs0 cs2 : Array Value} {d0 d2 : TypeDesc} (h : fn.results = #[.cell s0 ty0, .tmp s1, .cell s2 ty2])
    (hp0 : a.tmps.getD s0 undef = .pointer (some ⟨g0, 0, none⟩)) (hB0 : Blk w g0 t0 cs0) (hu0 : P.underlying ty0 = some d0) (hd0 : (match d0 with | .struct _ | .array _ _ => true | _ => false) = true) (hi0 : (P.info? ty0).map (·.size) = some cs0.size) (hp2 : a.tmps.getD s2 undef = .pointer (some ⟨g2, 0, none⟩)) (hB2 : Blk w g2 t2 cs2) (hu2 : P.underlying ty2 = some d2) (hd2 : (match d2 with | .struct _ | .array _ _ => true | _ => false) = true) (hi2 : (P.info? ty2).map (·.size) = some cs2.size)
    (hdef : a.defers = []) (hR : R (.returned (.tuple #[.agg cs0, a.tmps.getD s1 undef, .agg cs2])) w) : bodyPost P fn R .ret a w := by
  refine bodyPost_ret (v := .tuple #[.agg cs0, a.tmps.getD s1 undef, .agg cs2]) ?_ hdef hR
  have h0 := run_loadVar_row w g0 t0 ty0 cs0 (0, 0) d0 hB0 hu0 hd0 hi0
  have h2 := run_loadVar_row w g2 t2 ty2 cs2 (0, 0) d2 hB2 hu2 hd2 hi2
  simp only [results, h]
  rw [show (#[ResultVar.cell s0 ty0, ResultVar.tmp s1, ResultVar.cell s2 ty2] : Array ResultVar) = #[.cell s0 ty0, .tmp s1, .cell s2 ty2] from rfl]
  simp [Sem.run_bind, Result.andThen]
  have hp0' : a.tmps[s0]?.getD undef = .pointer (some ⟨g0, 0, none⟩) := by rw [← hp0]; simp
  have hp2' : a.tmps[s2]?.getD undef = .pointer (some ⟨g2, 0, none⟩) := by rw [← hp2]; simp
  rw [hp0', hp2']
  simp [asAddr, Sem.run_pure, Result.andThen, h0, h2]
end Go.Proofs.Ytichegndafnjeaa
