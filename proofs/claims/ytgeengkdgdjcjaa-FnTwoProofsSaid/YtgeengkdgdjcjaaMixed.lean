/-
  Mixed: No condition.
-/
import Derived.Test.YtgeengkdgdjcjaaHash
namespace Go.Proofs.Ytgeengkdgdjcjaa
set_option maxHeartbeats 4000000
set_option maxRecDepth 100000
set_option linter.unusedSimpArgs false
open Go.RowKit
set_option linter.unusedVariables false
def wcell (x : Int) : Value := .int .u32 x
def wrow (l : List Int) : Array Value := (l.map wcell).toArray
theorem wrow_get {l : List Int} {i : Nat} (h : i < l.length) : (wrow l)[i]? = some (.int .u32 (gw l i)) := by
 simp [wrow, List.getElem?_map, gw_get h, wcell]
theorem wrow_set (l : List Int) (i : Nat) (x : Int) : (wrow l).setIfInBounds i (.int .u32 x) = wrow (l.set i x) := by
 simp [wrow, List.map_set, wcell]
theorem list8 {α : Type} {l : List α} (h : l.length = 8) : ∃ a0 a1 a2 a3 a4 a5 a6 a7, l = [a0, a1, a2, a3, a4, a5, a6, a7] := by
 match l, h with
 | [a0, a1, a2, a3, a4, a5, a6, a7], _ => exact ⟨_, _, _, _, _, _, _, _, rfl⟩
theorem list16 {α : Type} {l : List α} (h : l.length = 16) : ∃ a0 a1 a2 a3 a4 a5 a6 a7 a8 a9 b0 b1 b2 b3 b4 b5, l = [a0, a1, a2, a3, a4, a5, a6, a7, a8, a9, b0, b1, b2, b3, b4, b5] := by
 match l, h with
 | [a0, a1, a2, a3, a4, a5, a6, a7, a8, a9, b0, b1, b2, b3, b4, b5], _ => exact ⟨_, _, _, _, _, _, _, _, _, _, _, _, _, _, _, _, rfl⟩
theorem four_blks (w : World) (x2 x3 x4 x5 : Array Value) (t2 t3 t4 t5 : TypeId) :
 Blk ((((w.alloc (.cells x2 t2)).alloc (.cells x3 t3)).alloc (.cells x4 t4)).alloc (.cells x5 t5)) w.heap.size t2 x2 ∧ Blk ((((w.alloc (.cells x2 t2)).alloc (.cells x3 t3)).alloc (.cells x4 t4)).alloc (.cells x5 t5)) (w.heap.size + 1) t3 x3 ∧
 Blk ((((w.alloc (.cells x2 t2)).alloc (.cells x3 t3)).alloc (.cells x4 t4)).alloc (.cells x5 t5)) (w.heap.size + 1 + 1) t4 x4 ∧ Blk ((((w.alloc (.cells x2 t2)).alloc (.cells x3 t3)).alloc (.cells x4 t4)).alloc (.cells x5 t5)) (w.heap.size + 1 + 1 + 1) t5 x5 ∧
 Ext w ((((w.alloc (.cells x2 t2)).alloc (.cells x3 t3)).alloc (.cells x4 t4)).alloc (.cells x5 t5)) := by
 have h3 : (w.alloc (.cells x2 t2)).heap.size = w.heap.size + 1 := by simp
 have h4 : ((w.alloc (.cells x2 t2)).alloc (.cells x3 t3)).heap.size = w.heap.size + 1 + 1 := by simp
 have h5 : (((w.alloc (.cells x2 t2)).alloc (.cells x3 t3)).alloc (.cells x4 t4)).heap.size = w.heap.size + 1 + 1 + 1 := by simp
 refine ⟨(((Blk.new w t2 x2).alloc _).alloc _).alloc _, ?_, ?_, ?_, Ext.new (Ext.new (Ext.new (Ext.new (Below.refl w.heap.size w) _) _) _) _⟩
 · have := ((Blk.new (w.alloc (.cells x2 t2)) t3 x3).alloc (.cells x4 t4)).alloc (.cells x5 t5); rwa [h3] at this
 · have := (Blk.new ((w.alloc (.cells x2 t2)).alloc (.cells x3 t3)) t4 x4).alloc (.cells x5 t5); rwa [h4] at this
 · have := Blk.new (((w.alloc (.cells x2 t2)).alloc (.cells x3 t3)).alloc (.cells x4 t4)) t5 x5; rwa [h5] at this
theorem mixed_any (s b : List Int) (w : World) (hs : s.length = 8) (hb : b.length = 16) (ws : W32 s) (wb : W32 b) :
 Calls Try.prog 61 #[.agg (wrow s), .agg (wrow b)] w fun e w' => e = .returned (.agg (wrow (mixW s b))) ∧ Ext w w' := by
 obtain ⟨a0, a1, a2, a3, a4, a5, a6, a7, rfl⟩ := list8 hs
 obtain ⟨c0, c1, c2, c3, c4, c5, c6, c7, c8, c9, d0, d1, d2, d3, d4, d5, rfl⟩ := list16 hb
 obtain ⟨s, hsd⟩ : ∃ s, s = [a0, a1, a2, a3, a4, a5, a6, a7] := ⟨_, rfl⟩
 obtain ⟨b, hbd⟩ : ∃ b, b = [c0, c1, c2, c3, c4, c5, c6, c7, c8, c9, d0, d1, d2, d3, d4, d5] := ⟨_, rfl⟩
 have es : wrow [a0, a1, a2, a3, a4, a5, a6, a7] = #[.int .u32 a0, .int .u32 a1, .int .u32 a2, .int .u32 a3, .int .u32 a4, .int .u32 a5, .int .u32 a6, .int .u32 a7] := rfl
 have eb : wrow [c0, c1, c2, c3, c4, c5, c6, c7, c8, c9, d0, d1, d2, d3, d4, d5] = #[.int .u32 c0, .int .u32 c1, .int .u32 c2, .int .u32 c3, .int .u32 c4, .int .u32 c5, .int .u32 c6, .int .u32 c7, .int .u32 c8, .int .u32 c9, .int .u32 d0, .int .u32 d1, .int .u32 d2, .int .u32 d3, .int .u32 d4, .int .u32 d5] := rfl
 obtain ⟨fin, hfin⟩ : ∃ fin, fin = wrow (mixW s b) := ⟨_, rfl⟩
 rw [es, eb, ← hsd, ← hbd, ← hfin]
 rw [← hsd] at hs ws es
 rw [← hbd] at hb wb eb
 obtain ⟨B2, B3, B4, B5, he⟩ := four_blks w #[.int .u32 a0, .int .u32 a1, .int .u32 a2, .int .u32 a3, .int .u32 a4, .int .u32 a5, .int .u32 a6, .int .u32 a7] #[.int .u32 c0, .int .u32 c1, .int .u32 c2, .int .u32 c3, .int .u32 c4, .int .u32 c5, .int .u32 c6, .int .u32 c7, .int .u32 c8, .int .u32 c9, .int .u32 d0, .int .u32 d1, .int .u32 d2, .int .u32 d3, .int .u32 d4, .int .u32 d5] #[.int .u32 0, .int .u32 0, .int .u32 0, .int .u32 0, .int .u32 0, .int .u32 0, .int .u32 0, .int .u32 0] #[.int .u32 a0, .int .u32 a1, .int .u32 a2, .int .u32 a3, .int .u32 a4, .int .u32 a5, .int .u32 a6, .int .u32 a7] 83 92 83 83
 have K2 := hU B2; have K3 := hU B3; have K4 := hU B4; have K5 := hU B5; have He := hU he
 clear B2 B3 B4 B5 he
 have Hfin := hU hfin
 have Es := hU es
 have Eb := hU eb
 clear hsd hbd hfin es eb
 go_enter Try.func61, Try.ntmps61
 go_wp2_with fail
 obtain ⟨g, hg⟩ : ∃ g, g = w.heap.size := ⟨_, rfl⟩
 rw [← hg] at K2 K3 K4 K5
 rw [← hg]
 have Hg : w.heap.size ≤ g := by omega
 rw [← Es.out, ← Eb.out] at K2 K3 K4 K5 He
 rw [← Es.out, ← Eb.out]
 clear hg
 go_loopw [10] (fun x wr => ∃ r : Nat, r ≤ 12 ∧ x = .int .i64 r ∧ Blk wr g 83 (wrow s) ∧ Blk wr (g + 1) 92 (wrow b) ∧ Blk wr (g + 1 + 1) 83 #[.int .u32 0, .int .u32 0, .int .u32 0, .int .u32 0, .int .u32 0, .int .u32 0, .int .u32 0, .int .u32 0] ∧ Blk wr (g + 1 + 1 + 1) 83 (wrow (mixN b s (8 * r))) ∧ Ext w wr) (fun x _ => 12 - (intOf x).toNat)
 case atStart => exact ⟨0, by omega, rfl, K2.out, K3.out, K4.out, K5.out, He.out⟩
 case round =>
  clear K2 K3 K4 K5 He
  obtain ⟨r, hr, rfl, B2, B3, B4, B5, he⟩ := hrel
  have K2 := hU B2; have K3 := hU B3; have K4 := hU B4; have K5 := hU B5
  clear B2 B3 B4 B5
  by_cases hlt : r < 12
  · obtain ⟨wo, rfl⟩ : ∃ wo : World, wo = wr := ⟨_, rfl⟩
    have hd12 : decide ((r : Int) < 12) = true := by rw [decide_eq_true_eq]; omega
    go_wp2_with fail
    go_loopw [13] (fun x wr => ∃ i : Nat, i ≤ 8 ∧ x = .int .i64 i ∧ Blk wr g 83 (wrow s) ∧ Blk wr (g + 1) 92 (wrow b) ∧ Blk wr (g + 1 + 1) 83 #[.int .u32 0, .int .u32 0, .int .u32 0, .int .u32 0, .int .u32 0, .int .u32 0, .int .u32 0, .int .u32 0] ∧ Blk wr (g + 1 + 1 + 1) 83 (wrow (mixN b s (8 * r + i))) ∧ Ext w wr) (fun x _ => 8 - (intOf x).toNat)
    case atStart => exact ⟨0, by omega, rfl, K2.out, K3.out, K4.out, K5.out, he⟩
    case round =>
     clear K2 K3 K4 K5 he
     obtain ⟨i, hi, rfl, B2, B3, B4, B5, he⟩ := hrel
     by_cases hlt2 : i < 8
     · have hvl := mixN_len b s (8 * r + i)
       have hv32 := mixN_32 b ws (8 * r + i)
       have hstep := mixN_step b s r i hlt2
       obtain ⟨v, hv⟩ : ∃ v, v = mixN b s (8 * r + i) := ⟨_, rfl⟩
       rw [← hv] at hvl hv32 hstep B5
       have Hstep := hU hstep
       clear hv hstep
       rw [hs] at hvl
       obtain ⟨f2, m2⟩ := B2.rules
       obtain ⟨f3, m3⟩ := B3.rules
       obtain ⟨f5, m5⟩ := B5.rules
       obtain ⟨j1, hj1⟩ : ∃ j : Nat, j = (i + 1) % 8 := ⟨_, rfl⟩
       obtain ⟨j2, hj2⟩ : ∃ j : Nat, j = (8 * r + 5 * i + r / 2) % 16 := ⟨_, rfl⟩
       obtain ⟨j3, hj3⟩ : ∃ j : Nat, j = (i + 3) % 8 := ⟨_, rfl⟩
       obtain ⟨n4, hn4⟩ : ∃ j : Nat, j = 5 + (i + 3 * r) % 23 := ⟨_, rfl⟩
       have e1 : ((i : Int) + 1) % 8 = (j1 : Int) := by omega
       have e2 : (8 * (r : Int) + 5 * (i : Int) + (r : Int) / 2) % 16 = (j2 : Int) := by omega
       have e3 : ((i : Int) + 3) % 8 = (j3 : Int) := by omega
       have q0 : wr.cell? ⟨g + 1 + 1 + 1, i, none⟩ = some (.int .u32 (gw v i)) := by rw [f5, wrow_get (by omega)]
       have q1 : wr.cell? ⟨g + 1 + 1 + 1, j1, none⟩ = some (.int .u32 (gw v j1)) := by rw [f5, wrow_get (by omega)]
       have q3 : wr.cell? ⟨g + 1 + 1 + 1, j3, none⟩ = some (.int .u32 (gw v j3)) := by rw [f5, wrow_get (by omega)]
       have q2 : wr.cell? ⟨g + 1, j2, none⟩ = some (.int .u32 (gw b j2)) := by rw [f3, wrow_get (by omega)]
       have z0 : IntKind.i64.wrap (8 * (r : Int)) = 8 * (r : Int) := IntWalk.i64_in _ (by omega)
       have z1 : IntKind.i64.wrap (8 * (r : Int) + (i : Int)) = 8 * (r : Int) + (i : Int) := IntWalk.i64_in _ (by omega)
       have z2 : IntKind.i64.wrap ((i : Int) + 1) = (i : Int) + 1 := IntWalk.i64_in _ (by omega)
       have z3 : IntKind.i64.wrap (5 * (i : Int)) = 5 * (i : Int) := IntWalk.i64_in _ (by omega)
       have z4 : IntKind.i64.wrap (8 * (r : Int) + 5 * (i : Int)) = 8 * (r : Int) + 5 * (i : Int) := IntWalk.i64_in _ (by omega)
       have z5 : IntKind.i64.wrap (8 * (r : Int) + 5 * (i : Int) + (r : Int) / 2) = 8 * (r : Int) + 5 * (i : Int) + (r : Int) / 2 := IntWalk.i64_in _ (by omega)
       have z6 : IntKind.i64.wrap ((r : Int) / 2) = (r : Int) / 2 := IntWalk.i64_in _ (by omega)
       have t1 : Int.tmod ((i : Int) + 1) 8 = (j1 : Int) := by rw [Int.tmod_eq_emod_of_nonneg (by omega)]; omega
       have t2 : Int.tdiv (r : Int) 2 = (r : Int) / 2 := Int.tdiv_eq_ediv_of_nonneg (by omega)
       have t3 : Int.tmod (8 * (r : Int) + 5 * (i : Int) + (r : Int) / 2) 16 = (j2 : Int) := by rw [Int.tmod_eq_emod_of_nonneg (by omega)]; omega
       have b1 : (j1 : Int) < 8 := by omega
       have b2 : (j2 : Int) < 16 := by omega
       have b3 : (j3 : Int) < 8 := by omega
       have Hj1 := hU hj1; have Hj2 := hU hj2; have Hj3 := hU hj3; have Hn4 := hU hn4
       clear hj1 hj2 hj3 hn4 e1 e2 e3
       obtain ⟨y, hy⟩ : ∃ y, y = stepSum b v r i := ⟨_, rfl⟩
       have Hyd := hU hy
       have hy0 : 0 ≤ y := by rw [hy]; exact (stepSum_rng _ _ _ _).1
       have hy1 : y < 4294967296 := by rw [hy]; exact (stepSum_rng _ _ _ _).2
       have Hy : Hid (IntKind.u32.wrap (gw v i + IntKind.u32.wrap (hconst (8 * (r : Int) + (i : Int)) + bits .xor .u32 (gw v j1) (gw b j2))) = y) :=
        hU (by rw [hy, stepSum, ← Hj1.out, ← Hj2.out, IntKind.wrap_u32, IntKind.wrap_u32, show ((8 * r + i : Nat) : Int) = 8 * (r : Int) + (i : Int) by omega]; omega)
       clear hy
       clear f2 f3 f5 m2 m3
       go_wp2_with fail
       refine wp_region_still_tail 28 (by kernel_rfl) (by kernel_rfl) ?_
       simp only [List.take_succ_cons, List.take_zero, List.drop_succ_cons, List.drop_zero]
       repeat still_step
       still_call ((Constant_any _ _ (by omega) (by omega)).mono (fun _ _ h => ⟨h.1, h.2.symm⟩))
       repeat still_step
       refine wpStill_nil ?_
       change wpList _ _ _ _ _ wr.drew
       rw [Hy.out]
       clear q0 q1 q2 q3 z0 z1 z2 z3 z4 z5 z6 t1 t2 t3
       have x5 : wr.cell? ⟨g + 1 + 1 + 1, i, none⟩ = some (.int .u32 (gw v i)) := by rw [B5.cell, wrow_get (by omega)]
       have m5 := B5.frozen i
       go_wp2_with fail
       have B2' := ((B2.far (p := ⟨g + 1 + 1 + 1, i, none⟩) (by show g ≠ g + 1 + 1 + 1; omega) (.int .u32 y))).drew
       have B3' := ((B3.far (p := ⟨g + 1 + 1 + 1, i, none⟩) (by show g + 1 ≠ g + 1 + 1 + 1; omega) (.int .u32 y))).drew
       have B4' := ((B4.far (p := ⟨g + 1 + 1 + 1, i, none⟩) (by show g + 1 + 1 ≠ g + 1 + 1 + 1; omega) (.int .u32 y))).drew
       have B5' := (B5.set_ i (.int .u32 y)).drew
       have he' : Ext w (wr.setCell ⟨g + 1 + 1 + 1, i, none⟩ (.int .u32 y)).drew := (Below.setCell he (p := ⟨g + 1 + 1 + 1, i, none⟩) (by show w.heap.size ≤ g + 1 + 1 + 1; omega) _).drew
       rw [wrow_set] at B5'
       clear x5 m5 B2 B3 B4 B5 he
       generalize (wr.setCell ⟨g + 1 + 1 + 1, i, none⟩ (.int .u32 y)).drew = w2 at *
       have f5 := B5'.cell
       have m5 := B5'.frozen i
       have q0 : w2.cell? ⟨g + 1 + 1 + 1, i, none⟩ = some (.int .u32 y) := by rw [f5, wrow_get (by rw [List.length_set]; omega), gw_set_same (by omega)]
       have q3 : w2.cell? ⟨g + 1 + 1 + 1, j3, none⟩ = some (.int .u32 (gw v j3)) := by rw [f5, wrow_get (by rw [List.length_set]; omega), gw_set_other (by have := Hj3.out; omega)]
       obtain ⟨n5, hn5⟩ : ∃ j : Nat, j = (i + 3 * r) % 23 := ⟨_, rfl⟩
       have z0 : IntKind.i64.wrap (3 * (r : Int)) = 3 * (r : Int) := IntWalk.i64_in _ (by omega)
       have z1 : IntKind.i64.wrap ((i : Int) + 3 * (r : Int)) = (i : Int) + 3 * (r : Int) := IntWalk.i64_in _ (by omega)
       have z2 : IntKind.i64.wrap ((i : Int) + 3) = (i : Int) + 3 := IntWalk.i64_in _ (by omega)
       have z3 : IntKind.i64.wrap (5 + (n5 : Int)) = 5 + (n5 : Int) := IntWalk.i64_in _ (by omega)
       have t1 : Int.tmod ((i : Int) + 3 * (r : Int)) 23 = (n5 : Int) := by rw [Int.tmod_eq_emod_of_nonneg (by omega)]; omega
       have t2 : Int.tmod ((i : Int) + 3) 8 = (j3 : Int) := by rw [Int.tmod_eq_emod_of_nonneg (by omega)]; have := Hj3.out; omega
       have b5 : (n5 : Int) < 23 := by omega
       have Hn5 := hU hn5
       clear hn5 f5
       refine wp_region_still_tail 18 (by kernel_rfl) (by kernel_rfl) ?_
       simp only [List.take_succ_cons, List.take_zero, List.drop_succ_cons, List.drop_zero]
       repeat still_step
       still_call ((Turn_any _ _ _ hy0 hy1 (by omega) (by omega)).mono (fun _ _ h => ⟨h.1, h.2.symm⟩))
       repeat still_step
       refine wpStill_nil ?_
       change wpList _ _ _ _ _ w2.drew
       obtain ⟨z, hz⟩ : ∃ z, z = stepVal b v r i := ⟨_, rfl⟩
       have hz2 : bits .xor .u32 (rotl y (5 + (n5 : Int)).toNat) (gw v j3) = z := by
        rw [hz, stepVal, ← Hyd.out, ← Hj3.out, ← Hn5.out, show (5 + (n5 : Int)).toNat = 5 + n5 by omega]
       rw [hz2]
       have hfin : (v.set i y).set i z = mixN b s (8 * r + (i + 1)) := by rw [List.set_set, hz, ← Hstep.out]; rfl
       have Hz := hU hfin
       clear hz hz2 hfin q3 z0 z1 z2 z3 t1 t2
       go_wp2_with fail
       have C2 := ((B2'.far (p := ⟨g + 1 + 1 + 1, i, none⟩) (by show g ≠ g + 1 + 1 + 1; omega) (.int .u32 z))).drew
       have C3 := ((B3'.far (p := ⟨g + 1 + 1 + 1, i, none⟩) (by show g + 1 ≠ g + 1 + 1 + 1; omega) (.int .u32 z))).drew
       have C4 := ((B4'.far (p := ⟨g + 1 + 1 + 1, i, none⟩) (by show g + 1 + 1 ≠ g + 1 + 1 + 1; omega) (.int .u32 z))).drew
       have C5 := (B5'.set_ i (.int .u32 z)).drew
       have ce : Ext w (w2.setCell ⟨g + 1 + 1 + 1, i, none⟩ (.int .u32 z)).drew := (Below.setCell he' (p := ⟨g + 1 + 1 + 1, i, none⟩) (by show w.heap.size ≤ g + 1 + 1 + 1; omega) _).drew
       rw [wrow_set, Hz.out] at C5
       clear q0 m5 B2' B3' B4' B5' he'
       go_roundw
       case rel => exact ⟨i + 1, by omega, by go_num, C2, C3, C4, C5, ce⟩
       case measure => simp [intOf]; omega
     · obtain rfl : i = 8 := by omega
       have K2 := hU B2; have K3 := hU B3; have K4 := hU B4; have K5 := hU B5
       clear B2 B3 B4 B5
       go_wp2_with fail
       go_roundw
       case rel => exact ⟨r + 1, by omega, by go_num, K2.out, K3.out, K4.out, K5.out, he⟩
       case measure => simp [intOf]; omega
  · have hr12 : r = 12 := by omega
    have B5 := K5.out
    have hd12 : decide ((r : Int) < 12) = false := by rw [decide_eq_false_iff_not]; omega
    rw [hr12] at B5
    clear hr12
    obtain ⟨v, hv⟩ : ∃ v, v = mixN b s (8 * 12) := ⟨_, rfl⟩
    have hvl : v.length = 8 := by rw [hv, mixN_len, hs]
    have Hv := hU hv
    rw [← hv] at B5
    have L5 := hU (show Blk wr (g + 1 + 1 + 1) 83 (wrow (addW s v 0)) from B5)
    clear hv B5 K5
    go_wp2_with fail
    go_loopw [64] (fun x wr => ∃ i : Nat, i ≤ 8 ∧ x = .int .i64 i ∧ Blk wr g 83 (wrow s) ∧ Blk wr (g + 1 + 1) 83 #[.int .u32 0, .int .u32 0, .int .u32 0, .int .u32 0, .int .u32 0, .int .u32 0, .int .u32 0, .int .u32 0] ∧ Blk wr (g + 1 + 1 + 1) 83 (wrow (addW s v i)) ∧ Ext w wr) (fun x _ => 8 - (intOf x).toNat)
    case atStart => exact ⟨0, by omega, rfl, K2.out, K4.out, L5.out, he⟩
    case round =>
     clear K2 K3 K4 L5 he
     obtain ⟨i, hi, rfl, B2, B4, B5, he⟩ := hrel
     by_cases hlt2 : i < 8
     · have hal := addW_len s v i
       have hfar := addW_far s v i i (Nat.le_refl _)
       have hnext : (addW s v i).set i ((gw v i + gw s i) % 4294967296) = addW s v (i + 1) := rfl
       obtain ⟨u, hu⟩ : ∃ u, u = addW s v i := ⟨_, rfl⟩
       rw [← hu] at hal hfar hnext B5
       have q5 : wr.cell? ⟨g + 1 + 1 + 1, i, none⟩ = some (.int .u32 (gw v i)) := by rw [B5.cell, wrow_get (by omega), hfar]
       have q2 : wr.cell? ⟨g, i, none⟩ = some (.int .u32 (gw s i)) := by rw [B2.cell, wrow_get (by omega)]
       have m5 := B5.frozen i
       obtain ⟨y, hy⟩ : ∃ y, y = (gw v i + gw s i) % 4294967296 := ⟨_, rfl⟩
       have Hy : Hid (IntKind.u32.wrap (gw v i + gw s i) = y) := hU (by rw [hy, IntKind.wrap_u32])
       rw [← hy] at hnext
       have Hn := hU hnext
       clear hu hfar hnext hy
       go_wp2_with fail
       refine wp_region_still_tail 8 (by kernel_rfl) (by kernel_rfl) ?_
       simp only [List.take_succ_cons, List.take_zero, List.drop_succ_cons, List.drop_zero]
       repeat still_step
       refine wpStill_nil ?_
       change wpList _ _ _ _ _ wr.drew
       try rw [Hy.out]
       go_wp2_with fail
       have C2 := ((B2.far (p := ⟨g + 1 + 1 + 1, i, none⟩) (by show g ≠ g + 1 + 1 + 1; omega) (.int .u32 y))).drew
       have C4 := ((B4.far (p := ⟨g + 1 + 1 + 1, i, none⟩) (by show g + 1 + 1 ≠ g + 1 + 1 + 1; omega) (.int .u32 y))).drew
       have C5 := (B5.set_ i (.int .u32 y)).drew
       have ce : Ext w (wr.setCell ⟨g + 1 + 1 + 1, i, none⟩ (.int .u32 y)).drew := (Below.setCell he (p := ⟨g + 1 + 1 + 1, i, none⟩) (by show w.heap.size ≤ g + 1 + 1 + 1; omega) _).drew
       rw [wrow_set, Hn.out] at C5
       clear q2 q5 m5 B2 B4 B5 he
       go_roundw
       case rel => exact ⟨i + 1, by omega, by go_num, C2, C4, C5, ce⟩
       case measure => simp [intOf]; omega
     · have hi8 : i = 8 := by omega
       rw [hi8] at B5
       have hd8 : decide ((i : Int) < 8) = false := by rw [decide_eq_false_iff_not]; omega
       clear hi8
       have hwl : (addW s v 8).length = 8 := by rw [addW_len, hvl]
       have hz : addW s v 8 = mixW s b := by rw [Hv.out]; rfl
       obtain ⟨f0, f1, f2, f3, f4, f5, f6, f7, hf⟩ := list8 hwl
       rw [hf] at B5 hz
       have Hz := hU hz
       clear hz hf hwl Hv
       have B5' : Blk wr (g + 1 + 1 + 1) 83 #[.int .u32 f0, .int .u32 f1, .int .u32 f2, .int .u32 f3, .int .u32 f4, .int .u32 f5, .int .u32 f6, .int .u32 f7] := B5
       obtain ⟨hc, hm⟩ := B5'.rules
       obtain ⟨hc4, hm4⟩ := B4.rules
       go_wp2_with fail
       have P : Blk (wr.setCells (g + 1 + 1) 0 [.int .u32 f0, .int .u32 f1, .int .u32 f2, .int .u32 f3, .int .u32 f4, .int .u32 f5, .int .u32 f6, .int .u32 f7]) (g + 1 + 1) 83 #[.int .u32 f0, .int .u32 f1, .int .u32 f2, .int .u32 f3, .int .u32 f4, .int .u32 f5, .int .u32 f6, .int .u32 f7] := Blk.put B4 0 _ _ (by simp) rfl
       have R2 : Ext w (wr.setCells (g + 1 + 1) 0 [.int .u32 f0, .int .u32 f1, .int .u32 f2, .int .u32 f3, .int .u32 f4, .int .u32 f5, .int .u32 f6, .int .u32 f7]) := ext_setCells (by omega) _ _ _ he
       have R1 : fin = #[.int .u32 f0, .int .u32 f1, .int .u32 f2, .int .u32 f3, .int .u32 f4, .int .u32 f5, .int .u32 f6, .int .u32 f7] := by rw [Hfin.out, ← Hz.out]; rfl
       clear hc hm hc4 hm4 B2 B4 B5 B5' he
       rw [R1]
       refine ret_row rfl rfl P Try.underlying83 rfl (by kernel_rfl) rfl ?_
       exact ⟨rfl, R2⟩
end Go.Proofs.Ytgeengkdgdjcjaa
