/-
  The disk of a broker of nothing, both sides: walks. No condition.
-/
import Derived.Test.YtkcjhfidgnbdiaaGreatBrkNew
import Derived.Test.YtkcjhfidgnbdiaaGreatFramesWk
import Derived.Test.YtkcjhfidgnbdiaaGreatBunch
import Derived.Test.YtkcjhfidgnbdiaaGreatEvOf
namespace Go.Proofs.YtkcjhfidgnbdiaaGreat
set_option linter.unusedSimpArgs false
open Go.RowKit
set_option linter.unusedVariables false

set_option maxHeartbeats 2000000 in
set_option maxRecDepth 100000 in
theorem texts_new (g b : Nat) (w : World) (h1 : w.cell? ⟨g, 1, none⟩ = some (.slice none 0 0)) (h2 : w.cell? ⟨g, 2, none⟩ = some (.slice none 0 0)) (h3 : w.cell? ⟨g, 3, none⟩ = some (.slice (some ⟨b, 0, none⟩) 1 1)) (hg : g < w.heap.size) :
    Calls Tryz.prog 181 #[.pointer (some ⟨g, 0, none⟩)] w fun e w' => e = .returned (.agg #[.slice none 0 0, .slice none 0 0, .slice none 0 0]) ∧ Ext w w' := by
  obtain ⟨B0, B1, he⟩ := two_new w #[.slice none 0 0, .slice none 0 0, .slice none 0 0] #[.slice none 0 0, .slice none 0 0, .slice none 0 0] 169 169
  have K0 := Lib.hid B0; have K1 := Lib.hid B1; have He := Lib.hid he; clear B0 B1 he
  go_enter Tryz.func181, Tryz.ntmps181
  go_wp2_with fail
  refine wp_loop_rounds 1 ?_
  rw [rounds_succ]
  go_wp2_with fail
  refine wp_loop_rounds 1 ?_
  rw [rounds_succ]
  go_wp2_with fail
  refine wp_loop_rounds 1 ?_
  rw [rounds_succ]
  go_wp2_with fail
  exact ret_row rfl rfl K0.out Tryz.underlying169 rfl (by kernel_rfl) rfl ⟨rfl, He.out⟩
theorem info_string : (Tryz.prog.info? 9).map (fun i => (i.zero, i.size, i.bytes)) = some (some (.string ⟨#[]⟩), 1, 16) := by kernel_rfl
theorem make_three (W : World) : (Instr.makeSlice 29 (.int .i64 3) (.int .i64 3)).run Tryz.prog W = .ok (.slice (some ⟨W.heap.size, 0, none⟩) 3 3) (W.alloc (.cells #[.string ⟨#[]⟩, .string ⟨#[]⟩, .string ⟨#[]⟩] 9)) := by
  obtain ⟨i, hi, hz, hs, hb⟩ := info_parts info_string
  have hr := run_make (P := Tryz.prog) W 29 9 i _ Tryz.underlying29 hi hz .i64 .i64 3 3 (by omega) (Int.le_refl _) (by rw [hb]; decide) (by omega)
  rw [hs] at hr
  have e : madeCells (Value.string ⟨#[]⟩).cells (Int.toNat 3 * 1) = #[.string ⟨#[]⟩, .string ⟨#[]⟩, .string ⟨#[]⟩] := by kernel_rfl
  rw [e] at hr
  exact hr
set_option maxRecDepth 100000 in
theorem DiskNew_any (w : World) : Calls Tryz.prog 180 #[] w fun e w' => ∃ q, e = .returned (.agg #[.slice (some ⟨q, 0, none⟩) 3 3]) ∧ w.heap.size ≤ q ∧ Blk w' q 9 #[.string ⟨#[]⟩, .string ⟨#[]⟩, .string ⟨#[]⟩] ∧ Ext w w' := by
  have HM := make_three
  obtain ⟨B0, B1, he⟩ := two_new w #[.slice (some ⟨w.heap.size + 1, 0, none⟩) 3 3] #[.string ⟨#[]⟩, .string ⟨#[]⟩, .string ⟨#[]⟩] 49 9
  have K0 := Lib.hid B0; have K1 := Lib.hid B1; have He := Lib.hid he; clear B0 B1 he
  go_enter Tryz.func180, Tryz.ntmps180
  go_wp2_with fail
  exact ret_row rfl rfl K0.out Tryz.underlying49 rfl (by kernel_rfl) rfl ⟨_, rfl, by omega, K1.out, He.out⟩
theorem framesNil : framesOut [] = ⟨#[]⟩ ∧ framesOk [] = true := by constructor <;> rfl
set_option maxHeartbeats 2000000 in
set_option maxRecDepth 100000 in
theorem disk_new (g b : Nat) (w : World) (h1 : w.cell? ⟨g, 1, none⟩ = some (.slice none 0 0)) (h2 : w.cell? ⟨g, 2, none⟩ = some (.slice none 0 0)) (h3 : w.cell? ⟨g, 3, none⟩ = some (.slice (some ⟨b, 0, none⟩) 1 1)) (hg : g < w.heap.size) :
    Calls Tryz.prog 93 #[.pointer (some ⟨g, 0, none⟩)] w fun e w' => ∃ q, e = .returned (.agg #[.slice (some ⟨q, 0, none⟩) 3 3]) ∧ w.heap.size ≤ q ∧ Blk w' q 9 #[.string ⟨#[]⟩, .string ⟨#[]⟩, .string ⟨#[]⟩] ∧ Ext w w' := by
  have K0 := Lib.hid (Blk.new w 49 #[.slice none 0 0])
  have He := Lib.hid (Ext.new (Below.refl w.heap.size w) (.cells #[.slice none 0 0] 49))
  have H1 := Lib.hid h1; have H2 := Lib.hid h2; have H3 := Lib.hid h3; clear h1 h2 h3
  go_enter Tryz.func93, Tryz.ntmps93
  go_wp2_with fail
  refine (DiskNew_any _).mono ?_
  rintro e w1 ⟨q, rfl, hq, kq, h1⟩
  have k0 := K0.out.ext h1; have he := He.out.next h1
  clear h1 K0 He
  have hq0 : w.heap.size ≤ q := by simp at hq; omega
  go_upto_region 2 with fail
  replace k0 := k0.alloc (.cells #[.slice (some ⟨q, 0, none⟩) 3 3] 49)
  have hql := kq.lt
  replace kq := kq.alloc (.cells #[.slice (some ⟨q, 0, none⟩) 3 3] 49)
  have kd := Blk.new w1 49 #[.slice (some ⟨q, 0, none⟩) 3 3]
  replace he := he.new (.cells #[.slice (some ⟨q, 0, none⟩) 3 3] 49)
  obtain ⟨d, hd⟩ : ∃ d, d = w1.heap.size := ⟨_, rfl⟩
  rw [← hd] at kd hql
  rw [← hd]
  clear hd
  generalize w1.alloc (.cells #[.slice (some ⟨q, 0, none⟩) 3 3] 49) = w2 at *
  go_wp2_with fail
  refine (texts_new g b _ ((he.cell (p := ⟨g, 1, none⟩) hg).trans H1.out) ((he.cell (p := ⟨g, 2, none⟩) hg).trans H2.out) ((he.cell (p := ⟨g, 3, none⟩) hg).trans H3.out) (Nat.lt_of_lt_of_le hg he.size)).mono ?_
  rintro e w3 ⟨rfl, h1⟩
  replace k0 := k0.ext h1; replace kq := kq.ext h1; replace kd := kd.ext h1; replace he := he.next h1
  clear h1
  go_wp2_with fail
  -- GEN disk
  have G0 := Lib.hid k0; have GQ := Lib.hid kq; have GD := Lib.hid kd; have GE := Lib.hid he
  clear k0 kq kd he H1 H2 H3
  have CF : Hid (∀ W : World, Calls Tryz.prog 182 #[.slice none 0 0] W fun e w' => e = .returned (.tuple #[.string ⟨#[]⟩, .bool true]) ∧ Ext W w') := Lib.hid (fun W => implFrames_any none 0 [] W Reads.nil_ (by simp) (by simp))
  have hqw : w.heap.size < q := by simp at hq; omega
  go_loopw [9] (fun i wr => ∃ k : Nat, k ≤ 3 ∧ i = .int .i64 k ∧ Blk wr d 49 #[.slice (some ⟨q, 0, none⟩) 3 3] ∧ Blk wr q 9 #[.string ⟨#[]⟩, .string ⟨#[]⟩, .string ⟨#[]⟩] ∧ Blk wr w.heap.size 49 #[.slice none 0 0] ∧ Ext w wr) (fun i _ => 3 - (intOf i).toNat)
  case atStart => exact ⟨0, Nat.zero_le _, rfl, GD.out, GQ.out, G0.out, GE.out⟩
  case round =>
    clear G0 GQ GD GE
    obtain ⟨k, hk, rfl, kd, kq, k0, he⟩ := hrel
    by_cases hlt : k < 3
    case neg =>
      obtain rfl : k = 3 := by omega
      obtain ⟨r1, f1⟩ := kd.rules
      obtain ⟨r0, f0⟩ := k0.rules
      have hz := k0.put 0 [.slice (some ⟨q, 0, none⟩) 3 3] #[.slice (some ⟨q, 0, none⟩) 3 3] (by simp) rfl
      have hx := ext_setCells (W := w) (g := w.heap.size) (Nat.le_refl _) [.slice (some ⟨q, 0, none⟩) 3 3] 0 _ he
      have hy := kq.farCells (g' := w.heap.size) (by omega) [.slice (some ⟨q, 0, none⟩) 3 3] 0
      have Z := Lib.hid hz; have X := Lib.hid hx; have Y := Lib.hid hy
      clear hz hx hy kd kq k0
      go_wp2_with fail
      exact ret_row rfl rfl Z.out Tryz.underlying49 rfl (by kernel_rfl) rfl ⟨_, rfl, hq0, Y.out, X.out⟩
    have IX0 : ∀ W : World, (Instr.index 169 (.agg #[.slice none 0 0, .slice none 0 0, .slice none 0 0]) (.int .i64 0)).run Tryz.prog W = .ok (.slice none 0 0) W := fun _ => by kernel_rfl
    have IX1 : ∀ W : World, (Instr.index 169 (.agg #[.slice none 0 0, .slice none 0 0, .slice none 0 0]) (.int .i64 1)).run Tryz.prog W = .ok (.slice none 0 0) W := fun _ => by kernel_rfl
    have IX2 : ∀ W : World, (Instr.index 169 (.agg #[.slice none 0 0, .slice none 0 0, .slice none 0 0]) (.int .i64 2)).run Tryz.prog W = .ok (.slice none 0 0) W := fun _ => by kernel_rfl
    have IX : ∀ W : World, (Instr.index 169 (.agg #[.slice none 0 0, .slice none 0 0, .slice none 0 0]) (.int .i64 (k : Int))).run Tryz.prog W = .ok (.slice none 0 0) W := by
      intro W
      obtain rfl | rfl | rfl : k = 0 ∨ k = 1 ∨ k = 2 := by omega
      · exact IX0 W
      · exact IX1 W
      · exact IX2 W
    have hk3 : (k : Int) < 3 := by omega
    go_upto_region 5 with fail
    clear IX IX0 IX1 IX2
    refine wp_region_held_drew (S := fun w' => Blk w' d 49 #[.slice (some ⟨q, 0, none⟩) 3 3] ∧ Blk w' q 9 #[.string ⟨#[]⟩, .string ⟨#[]⟩, .string ⟨#[]⟩] ∧ Blk w' w.heap.size 49 #[.slice none 0 0] ∧ Ext w w') (by kernel_rfl) ⟨kd.drew, kq.drew, k0.drew, he.drew⟩ (fun hH => ?_)
    clear kd kq k0 he
    refine takeH (i := 0) (oi := _) (v := .pointer (some ⟨d, 0, none⟩)) (some 14) rfl rfl (by kernel_rfl) (by kernel_rfl) (by kernel_rfl) (fun _ a b _ e h => by cases a; cases b; cases e; exact h) (Or.inl ⟨by rfl, ?y0⟩) hH ?r0
    case y0 => intro w' hS'; obtain ⟨s0, s1, s2, s3⟩ := hS'; obtain ⟨r1, f1⟩ := s0.rules; obtain ⟨r2, f2⟩ := s1.rules; go_simp; try with_reducible rfl
    (try simp only [fillA, Act.put, List.setIfInBounds_toArray, List.set_cons_zero, List.set_cons_succ])
    refine takeH (i := 1) (oi := _) (v := .slice (some ⟨q, 0, none⟩) 3 3) (some 15) rfl rfl (by kernel_rfl) (by kernel_rfl) (by kernel_rfl) (fun _ a b _ e h => by cases a; cases b; cases e; exact h) (Or.inl ⟨by rfl, ?y1⟩) hH ?r1
    case y1 => intro w' hS'; obtain ⟨s0, s1, s2, s3⟩ := hS'; obtain ⟨r1, f1⟩ := s0.rules; obtain ⟨r2, f2⟩ := s1.rules; go_simp; try with_reducible rfl
    (try simp only [fillA, Act.put, List.setIfInBounds_toArray, List.set_cons_zero, List.set_cons_succ])
    refine takeH (i := 2) (oi := _) (v := .int .i64 (k : Int)) (some 16) rfl rfl (by kernel_rfl) (by kernel_rfl) (by kernel_rfl) (fun _ a b _ e h => by cases a; cases b; cases e; exact h) (Or.inl ⟨by rfl, ?y2⟩) hH ?r2
    case y2 => intro w' hS'; obtain ⟨s0, s1, s2, s3⟩ := hS'; obtain ⟨r1, f1⟩ := s0.rules; obtain ⟨r2, f2⟩ := s1.rules; go_simp; try with_reducible rfl
    (try simp only [fillA, Act.put, List.setIfInBounds_toArray, List.set_cons_zero, List.set_cons_succ])
    refine takeH (i := 3) (oi := _) (v := .slice none 0 0) (some 17) rfl rfl (by kernel_rfl) (by kernel_rfl) (by kernel_rfl) (fun _ a b _ e h => by cases a; cases b; cases e; exact h) (Or.inl ⟨by rfl, ?y3⟩) hH ?r3
    case y3 => intro w' hS'; obtain ⟨s0, s1, s2, s3⟩ := hS'; obtain ⟨r1, f1⟩ := s0.rules; obtain ⟨r2, f2⟩ := s1.rules; go_simp; try with_reducible rfl
    (try simp only [fillA, Act.put, List.setIfInBounds_toArray, List.set_cons_zero, List.set_cons_succ])
    refine oneH 4 (oi := _) (some 18) (by kernel_rfl) rfl rfl rfl (fun K' hK => ?_)
    refine ⟨?_⟩
    rw [if_pos (by rfl)]
    go_simp
    refine (CF.out _).mono ?_
    rintro e w4 ⟨rfl, h1⟩
    refine hK.out _ _ ⟨_, rfl⟩ ⟨hH.1.ext h1, hH.2.1.ext h1, hH.2.2.1.ext h1, hH.2.2.2.next h1⟩ (fun hH2 => ?_)
    clear hK K' hH h1
    refine takeH (i := 5) (oi := _) (v := .tuple #[.string ⟨#[]⟩, .bool true]) (some 13) rfl rfl (by kernel_rfl) (by kernel_rfl) (by kernel_rfl) (fun _ a b _ e h => by cases a; cases b; cases e; exact h) (Or.inl ⟨by rfl, ?y5⟩) hH2 ?r5
    case y5 => intro w' hS'; obtain ⟨s0, s1, s2, s3⟩ := hS'; obtain ⟨r1, f1⟩ := s0.rules; obtain ⟨r2, f2⟩ := s1.rules; go_simp; try with_reducible rfl
    (try simp only [fillA, Act.put, List.setIfInBounds_toArray, List.set_cons_zero, List.set_cons_succ])
    refine takeH (i := 6) (oi := _) (v := .string ⟨#[]⟩) (some 19) rfl rfl (by kernel_rfl) (by kernel_rfl) (by kernel_rfl) (fun _ a b _ e h => by cases a; cases b; cases e; exact h) (Or.inl ⟨by rfl, ?y6⟩) hH2 ?r6
    case y6 => intro w' hS'; obtain ⟨s0, s1, s2, s3⟩ := hS'; obtain ⟨r1, f1⟩ := s0.rules; obtain ⟨r2, f2⟩ := s1.rules; go_simp; try with_reducible rfl
    (try simp only [fillA, Act.put, List.setIfInBounds_toArray, List.set_cons_zero, List.set_cons_succ])
    refine takeH (i := 7) (oi := _) (v := .bool true) (some 20) rfl rfl (by kernel_rfl) (by kernel_rfl) (by kernel_rfl) (fun _ a b _ e h => by cases a; cases b; cases e; exact h) (Or.inl ⟨by rfl, ?y7⟩) hH2 ?r7
    case y7 => intro w' hS'; obtain ⟨s0, s1, s2, s3⟩ := hS'; obtain ⟨r1, f1⟩ := s0.rules; obtain ⟨r2, f2⟩ := s1.rules; go_simp; try with_reducible rfl
    (try simp only [fillA, Act.put, List.setIfInBounds_toArray, List.set_cons_zero, List.set_cons_succ])
    refine takeH (i := 8) (oi := _) (v := .pointer (some ⟨q, k, none⟩)) (some 21) rfl rfl (by kernel_rfl) (by kernel_rfl) (by kernel_rfl) (fun _ a b _ e h => by cases a; cases b; cases e; exact h) (Or.inl ⟨by rfl, ?y8⟩) hH2 ?r8
    case y8 => intro w' hS'; obtain ⟨s0, s1, s2, s3⟩ := hS'; obtain ⟨r1, f1⟩ := s0.rules; obtain ⟨r2, f2⟩ := s1.rules; go_simp; try with_reducible rfl
    (try simp only [fillA, Act.put, List.setIfInBounds_toArray, List.set_cons_zero, List.set_cons_succ])
    refine oneH 9 (oi := _) none (by kernel_rfl) rfl rfl rfl (fun K' hK => ?_)
    obtain ⟨s0, s1, s2, s3⟩ := hH2
    have c2 : w4.cell? ⟨q, k, none⟩ = some (.string ⟨#[]⟩) := by
      rw [s1.cell]
      obtain rfl | rfl | rfl : k = 0 ∨ k = 1 ∨ k = 2 := by omega
      all_goals rfl
    have c3 := s1.frozen k
    have s1' : Blk (w4.setCell ⟨q, k, none⟩ (.string ⟨#[]⟩)) q 9 #[.string ⟨#[]⟩, .string ⟨#[]⟩, .string ⟨#[]⟩] := by
      have := s1.set_ k (.string ⟨#[]⟩)
      obtain rfl | rfl | rfl : k = 0 ∨ k = 1 ∨ k = 2 := by omega
      all_goals exact this
    have hdq : d ≠ q := by omega
    have F := hK.out { tmps := _, defers := _ } (w4.setCell ⟨q, k, none⟩ (.string ⟨#[]⟩)) ⟨undef, rfl⟩ ⟨s0.far (p := ⟨q, k, none⟩) hdq _, s1', s2.far (p := ⟨q, k, none⟩) (by show w.heap.size ≠ q; omega) _, Below.setCell s3 (p := ⟨q, k, none⟩) (by show w.heap.size ≤ q; omega) _⟩
    refine ⟨?_⟩
    rw [if_pos (by rfl)]
    go_simp
    refine F (fun hH3 => ?_)
    clear F hK K' s0 s1 s2 s3 c2 c3 s1'
    generalize w4.setCell ⟨q, k, none⟩ (.string ⟨#[]⟩) = w5 at *
    refine wpAnyH_done (by kernel_rfl) ?_ _
    (try simp only [Act.put, List.setIfInBounds_toArray, List.set_cons_zero, List.set_cons_succ])
    go_wp2_with fail
    go_roundw
    case rel => exact ⟨k + 1, by omega, by go_num, hH3⟩
    case measure => simp [intOf]; omega
set_option maxHeartbeats 2000000 in
set_option maxRecDepth 100000 in
theorem l12File_new (n : Int) (b : Nat) (h : HeadD) (file : Int) (w : World) :
    Calls Tryz.prog 176 #[.agg #[.int .i64 n, .slice none 0 0, .slice none 0 0, .slice (some ⟨b, 0, none⟩) 1 1, .int .i64 0, .slice none 0 0, .int .i64 0, .slice none 0 0, .int .i64 h.number, .int .i64 h.size, .string h.root, .int .i64 h.taken, .string h.takenRoot], .int .i64 file] w fun e w' => e = .returned (.string ⟨#[]⟩) ∧ Ext w w' := by
  have K0 := Lib.hid ((Blk.new w 37 #[.int .i64 n, .slice none 0 0, .slice none 0 0, .slice (some ⟨b, 0, none⟩) 1 1, .int .i64 0, .slice none 0 0, .int .i64 0, .slice none 0 0, .int .i64 h.number, .int .i64 h.size, .string h.root, .int .i64 h.taken, .string h.takenRoot]).alloc (.cells #[] 9))
  have k1 := Blk.new (w.alloc (.cells #[.int .i64 n, .slice none 0 0, .slice none 0 0, .slice (some ⟨b, 0, none⟩) 1 1, .int .i64 0, .slice none 0 0, .int .i64 0, .slice none 0 0, .int .i64 h.number, .int .i64 h.size, .string h.root, .int .i64 h.taken, .string h.takenRoot] 37)) 9 #[]
  rw [World.size_alloc] at k1
  have K1 := Lib.hid k1; clear k1
  have He := Lib.hid (Ext.new (Ext.new (Below.refl w.heap.size w) (.cells #[.int .i64 n, .slice none 0 0, .slice none 0 0, .slice (some ⟨b, 0, none⟩) 1 1, .int .i64 0, .slice none 0 0, .int .i64 0, .slice none 0 0, .int .i64 h.number, .int .i64 h.size, .string h.root, .int .i64 h.taken, .string h.takenRoot] 37)) (.cells #[] 9))
  have CF : Hid (∀ (W : World) (K : Nat), Calls Tryz.prog 253 #[.slice (some ⟨K, 0, none⟩) 0 0] W fun e w' => e = .returned (.tuple #[.string ⟨#[]⟩, .bool true]) ∧ Ext W w') := Lib.hid (fun W K => specFrames_any (some ⟨K, 0, none⟩) 0 [] W ⟨by simp, fun h => absurd h (by simp)⟩ (by simp) (by simp))
  go_enter Tryz.func176, Tryz.ntmps176
  go_wp2_with fail
  refine wp_loop_rounds 1 ?_
  rw [rounds_succ]
  go_wp2_with fail
  refine wp_loop_rounds 1 ?_
  rw [rounds_succ]
  go_wp2_with fail
  refine wp_loop_rounds 1 ?_
  rw [rounds_succ]
  go_wp2_with fail
  refine (CF.out _ _).mono ?_
  rintro e w1 ⟨rfl, h1⟩
  have he := He.out.next h1
  go_wp2_with fail
  go_ret
  exact ⟨rfl, he⟩
def emptys (k : Nat) : List Value := List.replicate k (.string ⟨#[]⟩)
theorem emptys_next (k : Nat) : emptys k ++ [.string ⟨#[]⟩] = emptys (k + 1) := by simp [emptys, List.replicate_succ']
set_option maxHeartbeats 2000000 in
set_option maxRecDepth 100000 in
theorem l12Disk_new (n : Int) (b : Nat) (h : HeadD) (w : World) :
    Calls Tryz.prog 89 #[.agg #[.int .i64 n, .slice none 0 0, .slice none 0 0, .slice (some ⟨b, 0, none⟩) 1 1, .int .i64 0, .slice none 0 0, .int .i64 0, .slice none 0 0, .int .i64 h.number, .int .i64 h.size, .string h.root, .int .i64 h.taken, .string h.takenRoot]] w fun e w' => ∃ v, e = .returned (.agg #[v]) ∧ w'.ownsRow w.heap.size 9 1 v 3 (emptys 3) ∧ Ext w w' := by
  obtain ⟨i0, hi, hz0, hz1, hz2⟩ := info_parts info_string
  obtain ⟨B0, B1, B2, he⟩ := three_blks w #[.int .i64 n, .slice none 0 0, .slice none 0 0, .slice (some ⟨b, 0, none⟩) 1 1, .int .i64 0, .slice none 0 0, .int .i64 0, .slice none 0 0, .int .i64 h.number, .int .i64 h.size, .string h.root, .int .i64 h.taken, .string h.takenRoot] #[.slice none 0 0] #[.slice none 0 0] 37 49 49
  have K0 := Lib.hid B0; have K1 := Lib.hid B1; have K2 := Lib.hid B2; have He := Lib.hid he; clear B0 B1 B2 he
  go_enter Tryz.func89, Tryz.ntmps89
  go_wp2_with fail
  obtain ⟨g, hg⟩ : ∃ g, g = w.heap.size := ⟨_, rfl⟩
  rw [← hg] at K0 K1 K2
  rw [← hg]
  have hg0 : w.heap.size ≤ g := by omega
  clear hg
  go_loopw [4] (fun i wr => ∃ (k : Nat) (v : Value), k ≤ 3 ∧ i = .int .i64 k ∧ Blk wr g 37 #[.int .i64 n, .slice none 0 0, .slice none 0 0, .slice (some ⟨b, 0, none⟩) 1 1, .int .i64 0, .slice none 0 0, .int .i64 0, .slice none 0 0, .int .i64 h.number, .int .i64 h.size, .string h.root, .int .i64 h.taken, .string h.takenRoot] ∧ Blk wr (g + 1) 49 #[.slice none 0 0] ∧ Blk wr (g + 1 + 1) 49 #[v] ∧ wr.ownsRow (g + 1 + 1 + 1) 9 1 v k (emptys k) ∧ Ext w wr) (fun i _ => 3 - (intOf i).toNat)
  case atStart => exact ⟨0, _, Nat.zero_le _, rfl, K0.out, K1.out, K2.out, World.ownsRow_nil _ _ _ _, He.out⟩
  case round =>
    clear K0 K1 K2 He
    obtain ⟨k, v, hk, rfl, k0, k1, k2, ko, he⟩ := hrel
    obtain ⟨V, cv, rfl, hnc⟩ := ownsRow_form ko
    by_cases hlt : k < 3
    case neg =>
      obtain rfl : k = 3 := by omega
      obtain ⟨r1, f1⟩ := k1.rules
      obtain ⟨r2, f2⟩ := k2.rules
      have hz := k1.put 0 [.slice V 3 cv] #[.slice V 3 cv] (by simp) rfl
      have hx := ext_setCells (W := w) (g := g + 1) (by omega) [.slice V 3 cv] 0 _ he
      have ho := ownsRow_base (B' := w.heap.size) (ownsRow_far ko (grow_setCells (g + 1) [.slice V 3 cv] 0 wr wr ⟨rfl, rfl, rfl, Nat.le_refl _, fun _ _ _ => rfl⟩) (by omega)) (by omega)
      have Z := Lib.hid hz; have X := Lib.hid hx; have Y := Lib.hid ho
      clear hz hx ho k0 k1 k2 ko
      go_wp2_with fail
      exact ret_row rfl rfl Z.out Tryz.underlying49 rfl (by kernel_rfl) rfl ⟨_, rfl, Y.out, X.out⟩
    have hk3 : (k : Int) < 3 := by omega
    have KO := Lib.hid ko; clear ko
    go_upto_region 5 with fail
    refine wp_region_any (by kernel_rfl) ?_
    change wpAny _ _ _ _ _ _ _ (World.drew _)
    refine takeA (i := 0) (oi := _) (v := .pointer (some ⟨g + 1 + 1, 0, none⟩)) (some 10) rfl rfl (by kernel_rfl) (by kernel_rfl) (by kernel_rfl) (fun _ a b _ e h => by cases a; cases b; cases e; exact h) (Or.inl ⟨by rfl, ?ya⟩) ?ra
    case ya => intro w'; go_simp; try with_reducible rfl
    (try simp only [fillA, Act.put, List.setIfInBounds_toArray, List.set_cons_zero, List.set_cons_succ])
    refine takeA (i := 3) (oi := _) (v := .int .i64 (k : Int)) (some 13) rfl rfl (by kernel_rfl) (by kernel_rfl) (by kernel_rfl) (fun _ a b _ e h => by cases a; cases b; cases e; exact h) (Or.inl ⟨by rfl, ?yb⟩) ?rb
    case yb => intro w'; go_simp; try with_reducible rfl
    (try simp only [fillA, Act.put, List.setIfInBounds_toArray, List.set_cons_zero, List.set_cons_succ])
    refine wpAny_bunch [(1, some 11), (2, some 12), (4, some 14), (5, some 15)] (fun i v w' => match i with
      | 1 => v = .slice V k cv
      | 2 => v = .agg #[.int .i64 n, .slice none 0 0, .slice none 0 0, .slice (some ⟨b, 0, none⟩) 1 1, .int .i64 0, .slice none 0 0, .int .i64 0, .slice none 0 0, .int .i64 h.number, .int .i64 h.size, .string h.root, .int .i64 h.taken, .string h.takenRoot]
      | 4 => v = .string ⟨#[]⟩
      | 5 => ∃ K, v = .slice (some ⟨K, 0, none⟩) 1 1 ∧ Blk w' K 9 #[.string ⟨#[]⟩]
      | _ => True) (fun w' => Blk w' g 37 #[.int .i64 n, .slice none 0 0, .slice none 0 0, .slice (some ⟨b, 0, none⟩) 1 1, .int .i64 0, .slice none 0 0, .int .i64 0, .slice none 0 0, .int .i64 h.number, .int .i64 h.size, .string h.root, .int .i64 h.taken, .string h.takenRoot] ∧ Blk w' (g + 1) 49 #[.slice none 0 0] ∧ Blk w' (g + 1 + 1) 49 #[.slice V k cv] ∧ w'.ownsRow (g + 1 + 1 + 1) 9 1 (.slice V k cv) k (emptys k) ∧ Ext w w') (fun w1 w2 => Ext w1 w2) (n := 3) (by kernel_rfl) (by rfl) (fun _ a b _ e h => by cases a; cases b; cases e; exact h) ?hR ⟨k0.drew, k1.drew, k2.drew, KO.out, he.drew⟩ ?hst ?hend
    case hR =>
      intro j v wa wb hx h
      split
      · exact h
      · exact h
      · exact h
      · obtain ⟨K, h1, h2⟩ := h; exact ⟨K, h1, h2.ext hx⟩
      · trivial
    case hst =>
      clear k0 k1 k2 KO he
      refine BunchAll.cons [] (o := _) rfl rfl rfl (by kernel_rfl) (fun vals u hv hS K' hK => ?_) ?_
      · clear hv
        have c5 := hS.2.2.1.cell 0
        refine ⟨?_⟩
        (try simp only [fillA, Act.put, List.setIfInBounds_toArray, List.set_cons_zero, List.set_cons_succ] at hK ⊢)
        go_simp
        exact hK.out _ _ ⟨_, rfl, rfl⟩ hS (Below.refl _ _)
      refine BunchAll.cons [] (o := _) rfl rfl rfl (by kernel_rfl) (fun vals u hv hS K' hK => ?_) ?_
      · clear hv
        have R := Blk.range hS.1
        refine ⟨?_⟩
        (try simp only [fillA, Act.put, List.setIfInBounds_toArray, List.set_cons_zero, List.set_cons_succ] at hK ⊢)
        rw [if_pos (by rfl)]
        refine wp_load_mid 37 _ rfl g 0 rfl [.int .i64 n, .slice none 0 0, .slice none 0 0, .slice (some ⟨b, 0, none⟩) 1 1, .int .i64 0, .slice none 0 0, .int .i64 0, .slice none 0 0, .int .i64 h.number, .int .i64 h.size, .string h.root, .int .i64 h.taken, .string h.takenRoot] _ R Tryz.underlying37 rfl (by kernel_rfl) ?_
        exact hK.out _ _ ⟨_, rfl, rfl⟩ hS (Below.refl _ _)
      refine BunchAll.cons [2] (o := _) rfl rfl rfl (by kernel_rfl) (fun vals u hv hS K' hK => ?_) ?_
      · obtain ⟨hv, _⟩ := hv
        refine ⟨?_⟩
        (try simp only [fillA, Act.put, List.setIfInBounds_toArray, List.set_cons_zero, List.set_cons_succ] at hK ⊢)
        simp only at hv
        rw [hv] at hK ⊢
        clear hv
        go_simp
        refine (l12File_new n b h _ _).mono ?_
        rintro e u2 ⟨rfl, h1⟩
        (try go_wp2_with fail)
        exact hK.out _ _ ⟨_, rfl, rfl⟩ ⟨hS.1.ext h1, hS.2.1.ext h1, hS.2.2.1.ext h1, ownsRow_ext hS.2.2.2.1 h1, hS.2.2.2.2.next h1⟩ h1
      refine BunchAll.cons [4] (o := _) rfl rfl rfl (by kernel_rfl) (fun vals u hv hS K' hK => ?_) ?_
      · obtain ⟨hv, _⟩ := hv
        have h1 := Ext.new (Below.refl u.heap.size u) (.cells #[.string ⟨#[]⟩] 9)
        have F := hK.out _ (u.alloc (.cells #[.string ⟨#[]⟩] 9)) ⟨_, rfl, u.heap.size, rfl, Blk.new _ _ _⟩ ⟨hS.1.ext h1, hS.2.1.ext h1, hS.2.2.1.ext h1, ownsRow_ext hS.2.2.2.1 h1, hS.2.2.2.2.next h1⟩ h1
        refine ⟨?_⟩
        (try simp only [fillA, Act.put, List.setIfInBounds_toArray, List.set_cons_zero, List.set_cons_succ] at hK F ⊢)
        simp only at hv
        rw [hv] at hK F ⊢
        clear hv
        go_simp
        exact F
      exact BunchAll.nil
    intro vals w3 hv hS
    obtain ⟨hv1, hv2, hv4, ⟨K5, hv5, b5⟩, _⟩ := hv
    simp only at hv1 hv2 hv4 hv5
    (try simp only [fillA, Act.put, List.setIfInBounds_toArray, List.set_cons_zero, List.set_cons_succ])
    rw [hv1, hv2, hv4, hv5]
    clear hv1 hv2 hv4 hv5
    obtain ⟨k0, k1, k2, ko, he⟩ := hS
    have hl2 := k2.lt
    have L0 := ko.lt
    have KK : ∀ (v' : Value) (w4 : World), w4.ownsRow (g + 1 + 1 + 1) 9 1 v' (k + 1) (emptys k ++ [.string ⟨#[]⟩]) → Frm (fun x => (Value.slice V k cv).ownBlock = some x) w3 w4 →
        Blk w4 g 37 #[.int .i64 n, .slice none 0 0, .slice none 0 0, .slice (some ⟨b, 0, none⟩) 1 1, .int .i64 0, .slice none 0 0, .int .i64 0, .slice none 0 0, .int .i64 h.number, .int .i64 h.size, .string h.root, .int .i64 h.taken, .string h.takenRoot] ∧ Blk w4 (g + 1) 49 #[.slice none 0 0] ∧ Blk w4 (g + 1 + 1) 49 #[.slice V k cv] ∧ Ext w w4 := fun v' w4 h1 h2 =>
      ⟨h2.blk k0 (fun e => by have := (L0 _ e).1; omega), h2.blk k1 (fun e => by have := (L0 _ e).1; omega), h2.blk k2 (fun e => by have := (L0 _ e).1; omega), h2.toExt he (fun x hx e => by have := (L0 _ e).1; omega)⟩
    have KF := Lib.hid KK; have KO := Lib.hid ko; clear KK ko k0 k1 k2 L0
    refine oneA 6 (oi := _) (some 16) (by kernel_rfl) rfl rfl rfl (fun K' hK => ?_)
    refine ⟨?_⟩; rw [if_pos (by rfl)]
    refine wp_append_moved _ _ _ 29 (by rfl) (g + 1 + 1 + 1) 9 i0 _ 1 16 Tryz.underlying29 hi hz0 hz1 hz2 rfl (by decide) (.slice V k cv) k (emptys k) (by rfl) KO.out ⟨K5, 0, none⟩ 1 1 [.string ⟨#[]⟩] (by rfl) (by rfl) b5.adds (by intro u hu; simp at hu; subst hu; rfl) ?_ ?_ ?_ (fun v' w4 ho hf hm => ?_)
    · unfold maxLen; omega
    · omega
    · omega
    obtain ⟨V2, cv2, rfl, _⟩ := ownsRow_form ho
    obtain ⟨k0, k1, k2, he4⟩ := KF.out _ _ ho hf
    refine hK.out _ _ ⟨_, rfl⟩ ?_
    clear hK K' hf hm KF KO b5
    rw [emptys_next] at ho
    have KO := Lib.hid ho; clear ho
    (try simp only [fillA, Act.put, List.setIfInBounds_toArray, List.set_cons_zero, List.set_cons_succ])
    refine takeA (i := 7) (oi := _) (v := .pointer (some ⟨g + 1 + 1, 0, none⟩)) (some 17) rfl rfl (by kernel_rfl) (by kernel_rfl) (by kernel_rfl) (fun _ a b _ e h => by cases a; cases b; cases e; exact h) (Or.inl ⟨by rfl, ?yc⟩) ?rc
    case yc => intro w'; go_simp; try with_reducible rfl
    (try simp only [fillA, Act.put, List.setIfInBounds_toArray, List.set_cons_zero, List.set_cons_succ])
    refine oneA 8 (oi := _) none (by kernel_rfl) rfl rfl rfl (fun K' hK => ?_)
    have c2 := k2.cell 0
    have f2 := k2.frozen 0
    have y2 : Blk (w4.setCell ⟨g + 1 + 1, 0, none⟩ (.slice V2 (k + 1) cv2)) (g + 1 + 1) 49 #[.slice V2 (k + 1) cv2] := k2.set_ 0 _
    have y0 := k0.far (p := ⟨g + 1 + 1, 0, none⟩) (by show g ≠ g + 1 + 1; omega) (.slice V2 (k + 1) cv2)
    have y1 := k1.far (p := ⟨g + 1 + 1, 0, none⟩) (by show g + 1 ≠ g + 1 + 1; omega) (.slice V2 (k + 1) cv2)
    have ye := Below.setCell he4 (p := ⟨g + 1 + 1, 0, none⟩) (by show w.heap.size ≤ g + 1 + 1; omega) (.slice V2 (k + 1) cv2)
    have yo := ownsRow_far KO.out (grow_setCells (g + 1 + 1) [.slice V2 (k + 1) cv2] 0 w4 w4 ⟨rfl, rfl, rfl, Nat.le_refl _, fun _ _ _ => rfl⟩) (by omega)
    have F := hK.out { tmps := _, defers := _ } (w4.setCell ⟨g + 1 + 1, 0, none⟩ (.slice V2 (k + 1) cv2)) ⟨undef, rfl⟩
    refine ⟨?_⟩
    rw [if_pos (by rfl)]
    go_simp
    refine F ?_
    clear F hK K' c2 f2 k0 k1 k2 he4 KO
    have YY : Blk _ g _ _ ∧ Blk _ (g + 1) _ _ ∧ Blk _ (g + 1 + 1) _ _ ∧ _ ∧ Ext w _ := ⟨y0, y1, y2, yo, ye⟩
    have HY := Lib.hid YY
    clear YY y0 y1 y2 yo ye
    refine wpAny_done (by kernel_rfl) ?_ _
    (try simp only [fillA, Act.put, List.setIfInBounds_toArray, List.set_cons_zero, List.set_cons_succ])
    go_wp2_with fail
    go_roundw
    case rel => exact ⟨k + 1, _, by omega, by go_num, HY.out⟩
    case measure => simp [intOf]; omega
end Go.Proofs.YtkcjhfidgnbdiaaGreat
