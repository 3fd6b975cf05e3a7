/-
  InclS: No condition.
-/
import Derived.Test.YtgeengkdgdjcjaaAppSrc
import Derived.Test.YtgeengkdgdjcjaaRowTx
import Derived.Test.YtgeengkdgdjcjaaRoot6
namespace Go.Proofs.Ytgeengkdgdjcjaa
set_option maxHeartbeats 2000000
set_option maxRecDepth 100000
set_option linter.unusedSimpArgs false
open Go.RowKit
set_option linter.unusedVariables false
theorem l05Inclusion_any (wd : Int) (hwd : inR wd 1 32 = true) : ∀ (m : Nat) (l : List ByteArray) (A : Option Addr) (c k : Nat) (w : World), l.length ≤ m → m ≤ 512 → k < l.length → SlF AnyB sone 1 w A l c → (∀ s ∈ l, s.size = wd.toNat) →
 Calls Try.prog 23 #[.int .i64 wd, .slice A l.length c, .int .i64 (k : Int)] w fun e w' => ∃ v, e = .returned v ∧ RowT w.heap.size w' v (inclN wd m l k) ∧ Ext w w' := by
 obtain ⟨i0, hi, hz0, hz1, hz2⟩ := info_parts info_string
 intro m
 induction m with
 | zero => intro l A c k w hm _ hk _ _; exact absurd hk (by omega)
 | succ m ih =>
   intro l A c k w hm h5 hk hr hs
   have hle := hr.le
   have hcap := hr.cap
   have hcap2 : c ≤ 9223372036854775807 := by unfold maxLen at hcap; omega
   rcases Nat.lt_or_ge l.length 2 with h2 | h2
   · obtain ⟨L, hL⟩ : ∃ L, L = l.length := ⟨_, rfl⟩
     have E := hU (inclN_one (wd := wd) (m := m + 1) (k := k) (show l.length ≤ 1 by omega))
     obtain rfl : L = 1 := by omega
     rw [← hL]
     rw [E.out]
     clear hr ih hs hL hm hk hle
     go_enter Try.func23, Try.ntmps23
     go_wp2_with fail
     go_ret
     exact ⟨_, rfl, ownsRow_empty w 9 1, Ext.new (Below.refl w.heap.size w) _⟩
   obtain ⟨b, off, rfl, hb, hc⟩ := Reads.at_ hr.reads (k := 0) (by omega)
   have l1 := half_lt h2
   have l2 := half_pos l.length
   have HH := hU (specHalfOf_any l.length w h2 (by omega))
   obtain ⟨hf, hhf⟩ : ∃ hf, hf = half l.length := ⟨_, rfl⟩
   rw [← hhf] at l1 l2 HH
   have IL := hU (fun h => inclN_low (wd := wd) (m := m) (k := k) hhf h2 h)
   have IH := hU (fun h => inclN_high (wd := wd) (m := m) (k := k) hhf h2 h)
   clear hhf hc
   have t1 : (l.take hf).length = hf := by rw [List.length_take]; omega
   have t2 : (l.drop hf).length = l.length - hf := List.length_drop ..
   have C1 : Hid (∀ W : World, Ext w W → k < hf → Calls Try.prog 23 #[.int .i64 wd, .slice (some ⟨b, off, none⟩) hf c, .int .i64 (k : Int)] W fun e w' => ∃ v, e = .returned v ∧ RowT W.heap.size w' v (inclN wd m (l.take hf) k) ∧ Ext W w') := hU (fun W h hk2 => by
    have := ih (l.take hf) (some ⟨b, off, none⟩) c k W (by omega) (by omega) (by omega) (slf_takeT (hr.ext h) hf (by omega)) (fun s h => hs s (List.mem_of_mem_take h))
    rwa [t1] at this)
   have C2 : Hid (∀ W : World, Ext w W → hf ≤ k → Calls Try.prog 23 #[.int .i64 wd, .slice (some ⟨b, off + hf, none⟩) (l.length - hf) (c - hf), .int .i64 ((k - hf : Nat) : Int)] W fun e w' => ∃ v, e = .returned v ∧ RowT W.heap.size w' v (inclN wd m (l.drop hf) (k - hf)) ∧ Ext W w') := hU (fun W h hk2 => by
    have := ih (l.drop hf) (some ⟨b, off + hf, none⟩) (c - hf) (k - hf) W (by omega) (by omega) (by omega) (slf_dropT (hr.ext h) hf (by omega)) (fun s h => hs s (List.mem_of_mem_drop h))
    rwa [t2] at this)
   have D1 : Hid (∀ W : World, Ext w W → Calls Try.prog 21 #[.int .i64 wd, .slice (some ⟨b, off, none⟩) hf c] W fun e w' => e = .returned (.string (treeR wd (l.take hf))) ∧ Ext W w') := hU (fun W h => by
    have := l05Root_any wd hwd _ (l.take hf) (some ⟨b, off, none⟩) c W (Nat.le_refl _) (by omega) (slf_takeT (hr.ext h) hf (by omega)) (fun s h => hs s (List.mem_of_mem_take h))
    rwa [t1] at this)
   have D2 : Hid (∀ W : World, Ext w W → Calls Try.prog 21 #[.int .i64 wd, .slice (some ⟨b, off + hf, none⟩) (l.length - hf) (c - hf)] W fun e w' => e = .returned (.string (treeR wd (l.drop hf))) ∧ Ext W w') := hU (fun W h => by
    have := l05Root_any wd hwd _ (l.drop hf) (some ⟨b, off + hf, none⟩) (c - hf) W (Nat.le_refl _) (by omega) (slf_dropT (hr.ext h) hf (by omega)) (fun s h => hs s (List.mem_of_mem_drop h))
    rwa [t2] at this)
   have n1 := inclN_len wd m (l.take hf) k
   have n2 := inclN_len wd m (l.drop hf) (k - hf)
   have P1 : Hid (k < hf → ∀ (W : World) (v : Value), RowT w.heap.size W v (inclN wd m (l.take hf) k ++ [treeR wd (l.drop hf)]) → RowT w.heap.size W v (inclN wd (m + 1) l k)) := hU (fun h W v h2 => by rw [IL.out h]; exact h2)
   have P2 : Hid (hf ≤ k → ∀ (W : World) (v : Value), RowT w.heap.size W v (inclN wd m (l.drop hf) (k - hf) ++ [treeR wd (l.take hf)]) → RowT w.heap.size W v (inclN wd (m + 1) l k)) := hU (fun h W v h2 => by rw [IH.out h]; exact h2)
   obtain ⟨N1, hN1⟩ : ∃ N, N = inclN wd m (l.take hf) k := ⟨_, rfl⟩
   obtain ⟨N2, hN2⟩ : ∃ N, N = inclN wd m (l.drop hf) (k - hf) := ⟨_, rfl⟩
   obtain ⟨X, hX⟩ : ∃ X, X = treeR wd (l.take hf) := ⟨_, rfl⟩
   obtain ⟨Y, hY⟩ : ∃ Y, Y = treeR wd (l.drop hf) := ⟨_, rfl⟩
   rw [← hN1] at C1 n1 P1
   rw [← hN2] at C2 n2 P2
   rw [← hX] at D1 P2
   rw [← hY] at D2 P1
   have d0 : ((l.length : Int) == 0) = false := beq_false_of_ne (by omega)
   have d1 : ((l.length : Int) == 1) = false := beq_false_of_ne (by omega)
   have e0 : ¬ (l.length = 0) := by omega
   have e1 : ¬ (l.length = 1) := by omega
   have e2 : ¬ ((l.length : Int) = 1) := by omega
   have e3 : ¬ (l.length ≤ 1) := by omega
   have hfl : hf ≤ l.length := by omega
   have hfc : hf ≤ c := by omega
   have hcf : ¬ c = hf := by omega
   clear hX hY hN1 hN2 t1 t2 ih hr hs hcap IL IH
   by_cases hkh : k < hf
   · have hkz : (k : Int) < (hf : Int) := by omega
     have C := hU (fun W hW => C1.out W hW hkh); have PP := hU (P1.out hkh)
     clear C1 C2 P1 P2
     go_enter Try.func23, Try.ntmps23
     go_wp2_with fail
     refine HH.out.mono ?_
     rintro e w1 ⟨rfl, rfl⟩
     go_upto_region 6 with fail
     refine wp_region_held_drew (S := fun w' => Ext w w') (by kernel_rfl) (show Ext w w from Below.refl w.heap.size w).drew (fun hH => ?_)
     refine takeQ 0 (.int .i64 wd) (some 19) rfl rfl (by kernel_rfl) (Or.inl ⟨by rfl, ?ym1⟩) hH ?rm1
     case ym1 => intro w' hS'; go_simp; try with_reducible rfl
     try simp only [zA]
     refine takeQ 1 (.slice (some ⟨b, off, none⟩) l.length c) (some 20) rfl rfl (by kernel_rfl) (Or.inl ⟨by rfl, ?ym2⟩) hH ?rm2
     case ym2 => intro w' hS'; go_simp; try with_reducible rfl
     try simp only [zA]
     refine takeQ 2 (.int .i64 (hf : Int)) (some 21) rfl rfl (by kernel_rfl) (Or.inl ⟨by rfl, ?ym3⟩) hH ?rm3
     case ym3 => intro w' hS'; go_simp; try with_reducible rfl
     try simp only [zA]
     refine takeQ 3 (.slice (some ⟨b, off, none⟩) hf c) (some 22) rfl rfl (by kernel_rfl) (Or.inl ⟨by rfl, ?ym4⟩) hH ?rm4
     case ym4 => intro w' hS'; go_simp; try with_reducible rfl
     try simp only [zA]
     refine takeQ 4 (.int .i64 (k : Int)) (some 23) rfl rfl (by kernel_rfl) (Or.inl ⟨by rfl, ?ym5⟩) hH ?rm5
     case ym5 => intro w' hS'; go_simp; try with_reducible rfl
     try simp only [zA]
     refine takeQ 6 (.int .i64 wd) (some 25) rfl rfl (by kernel_rfl) (Or.inl ⟨by rfl, ?ym6⟩) hH ?rm6
     case ym6 => intro w' hS'; go_simp; try with_reducible rfl
     try simp only [zA]
     refine takeQ 7 (.slice (some ⟨b, off, none⟩) l.length c) (some 26) rfl rfl (by kernel_rfl) (Or.inl ⟨by rfl, ?ym7⟩) hH ?rm7
     case ym7 => intro w' hS'; go_simp; try with_reducible rfl
     try simp only [zA]
     refine takeQ 8 (.int .i64 (hf : Int)) (some 27) rfl rfl (by kernel_rfl) (Or.inl ⟨by rfl, ?ym8⟩) hH ?rm8
     case ym8 => intro w' hS'; go_simp; try with_reducible rfl
     try simp only [zA]
     refine takeQ 9 (.slice (some ⟨b, off + hf, none⟩) (l.length - hf) (c - hf)) (some 28) rfl rfl (by kernel_rfl) (Or.inl ⟨by rfl, ?ym9⟩) hH ?rm9
     case ym9 => intro w' hS'; go_simp; try with_reducible rfl
     try simp only [zA]
     refine oneH 5 (oi := _) (some 24) (by kernel_rfl) rfl rfl rfl (fun K' hK => ?_)
     refine ⟨?_⟩
     rw [if_pos (by rfl)]
     go_simp
     refine (C.out _ hH).mono ?_
     rintro e w2 ⟨v1, rfl, h0, h1⟩
     have HV := hU (show RowT w.heap.size w2 v1 N1 from ownsRow_base h0 hH.size)
     clear h0
     refine hK.out _ _ ⟨_, rfl⟩ (hH.next h1) (fun hH2 => ?_)
     clear hK K' hH h1
     have hH := hH2
     clear hH2
     try simp only [zB]
     refine oneH 10 (oi := _) (some 29) (by kernel_rfl) rfl rfl rfl (fun K' hK => ?_)
     refine ⟨?_⟩
     rw [if_pos (by rfl)]
     go_simp
     refine (D2.out _ hH).mono ?_
     rintro e w3 ⟨rfl, h1⟩
     replace HV := hU (HV.out.ext h1)
     refine hK.out _ _ ⟨_, rfl⟩ (hH.next h1) (fun hH2 => ?_)
     clear hK K' hH h1
     have hH := hH2
     clear hH2
     try simp only [zB]
     refine oneH 11 (oi := _) (some 30) (by kernel_rfl) rfl rfl rfl (fun K' hK => ?_)
     refine ⟨?_⟩; rw [if_pos (by rfl)]
     go_simp
     have h1 := Ext.new (Below.refl w3.heap.size w3) (.cells #[.string Y] 9)
     have KB := hU (Blk.new w3 9 #[.string Y])
     replace HV := hU (HV.out.ext h1)
     refine hK.out _ _ ⟨_, rfl⟩ (hH.next h1) (fun hH2 => ?_)
     clear hK K' hH h1
     have hH := hH2
     clear hH2
     try simp only [zB]
     have L0 := hU HV.out.lt
     generalize w3.alloc (.cells #[.string Y] 9) = w4 at *
     generalize w3.heap.size = q at *
     refine oneH 12 (oi := _) (some 31) (by kernel_rfl) rfl rfl rfl (fun K' hK => ?_)
     refine ⟨?_⟩; rw [if_pos (by rfl)]
     refine wp_append_moved _ _ _ 24 (by rfl) w.heap.size 9 i0 _ 1 16 Try.underlying24 hi hz0 hz1 hz2 rfl (by decide) v1 _ _ (by rfl) HV.out ⟨q, 0, none⟩ 1 1 [.string Y] (by rfl) rfl ?c1L ?c2L ?c3L ?c4L hH.size (fun v2 w5 ho hf2 hmv => ?_)
     case c1L => exact KB.out.adds
     case c2L => intro u hu; simp at hu; subst hu; rfl
     case c3L => unfold maxLen; omega
     case c4L => omega
     have h1 : Ext w w5 := hf2.toExt hH (fun y hy e => by have := (L0.out _ e).1; omega)
     have HO : Hid (RowT w.heap.size w5 v2 (N1 ++ [Y])) := hU (RowT.of ho (by simp) (by simp [sone]))
     refine hK.out (Act.put _ (some 31) v2) _ ⟨_, rfl⟩ (h1) (fun hH2 => ?_)
     clear hK K' hH h1 ho hf2 hmv HV KB L0
     have hH := hH2
     clear hH2
     try simp only [zB]
     refine takeQ 13 (v2) (some 6) rfl rfl (by kernel_rfl) (Or.inl ⟨by rfl, ?ym10⟩) hH ?rm10
     case ym10 => intro w' hS'; go_simp; try with_reducible rfl
     try simp only [zA]
     have he2 := hH
     clear hH
     refine wpAnyH_done (by kernel_rfl) ?_ _
     go_wp2_with fail
     go_ret
     exact ⟨_, rfl, PP.out _ _ HO.out, he2⟩
   · have hkz : ¬ (k : Int) < (hf : Int) := by omega
     have hkj : (k : Int) - (hf : Int) = ((k - hf : Nat) : Int) := by omega
     have hkw : IntKind.i64.wrap (((k - hf : Nat) : Int)) = ((k - hf : Nat) : Int) := IntWalk.i64_in _ (by omega)
     have C := hU (fun W hW => C2.out W hW (by omega)); have PP := hU (P2.out (by omega))
     clear C1 C2 P1 P2
     go_enter Try.func23, Try.ntmps23
     go_wp2_with fail
     refine HH.out.mono ?_
     rintro e w1 ⟨rfl, rfl⟩
     go_upto_region 7 with fail
     refine wp_region_held_drew (S := fun w' => Ext w w') (by kernel_rfl) (show Ext w w from Below.refl w.heap.size w).drew (fun hH => ?_)
     refine takeQ 0 (.int .i64 wd) (some 32) rfl rfl (by kernel_rfl) (Or.inl ⟨by rfl, ?yn1⟩) hH ?rn1
     case yn1 => intro w' hS'; go_simp; try with_reducible rfl
     try simp only [zA]
     refine takeQ 1 (.slice (some ⟨b, off, none⟩) l.length c) (some 33) rfl rfl (by kernel_rfl) (Or.inl ⟨by rfl, ?yn2⟩) hH ?rn2
     case yn2 => intro w' hS'; go_simp; try with_reducible rfl
     try simp only [zA]
     refine takeQ 2 (.int .i64 (hf : Int)) (some 34) rfl rfl (by kernel_rfl) (Or.inl ⟨by rfl, ?yn3⟩) hH ?rn3
     case yn3 => intro w' hS'; go_simp; try with_reducible rfl
     try simp only [zA]
     refine takeQ 3 (.slice (some ⟨b, off + hf, none⟩) (l.length - hf) (c - hf)) (some 35) rfl rfl (by kernel_rfl) (Or.inl ⟨by rfl, ?yn4⟩) hH ?rn4
     case yn4 => intro w' hS'; go_simp; try with_reducible rfl
     try simp only [zA]
     refine takeQ 4 (.int .i64 (k : Int)) (some 36) rfl rfl (by kernel_rfl) (Or.inl ⟨by rfl, ?yn5⟩) hH ?rn5
     case yn5 => intro w' hS'; go_simp; try with_reducible rfl
     try simp only [zA]
     refine takeQ 5 (.int .i64 (hf : Int)) (some 37) rfl rfl (by kernel_rfl) (Or.inl ⟨by rfl, ?yn6⟩) hH ?rn6
     case yn6 => intro w' hS'; go_simp; try with_reducible rfl
     try simp only [zA]
     refine takeQ 6 (.int .i64 ((k - hf : Nat) : Int)) (some 38) rfl rfl (by kernel_rfl) (Or.inl ⟨by rfl, ?yn7⟩) hH ?rn7
     case yn7 => intro w' hS'; go_simp; try with_reducible rfl
     try simp only [zA]
     refine takeQ 8 (.int .i64 wd) (some 40) rfl rfl (by kernel_rfl) (Or.inl ⟨by rfl, ?yn8⟩) hH ?rn8
     case yn8 => intro w' hS'; go_simp; try with_reducible rfl
     try simp only [zA]
     refine takeQ 9 (.slice (some ⟨b, off, none⟩) l.length c) (some 41) rfl rfl (by kernel_rfl) (Or.inl ⟨by rfl, ?yn9⟩) hH ?rn9
     case yn9 => intro w' hS'; go_simp; try with_reducible rfl
     try simp only [zA]
     refine takeQ 10 (.int .i64 (hf : Int)) (some 42) rfl rfl (by kernel_rfl) (Or.inl ⟨by rfl, ?yn10⟩) hH ?rn10
     case yn10 => intro w' hS'; go_simp; try with_reducible rfl
     try simp only [zA]
     refine takeQ 11 (.slice (some ⟨b, off, none⟩) hf c) (some 43) rfl rfl (by kernel_rfl) (Or.inl ⟨by rfl, ?yn11⟩) hH ?rn11
     case yn11 => intro w' hS'; go_simp; try with_reducible rfl
     try simp only [zA]
     refine oneH 7 (oi := _) (some 39) (by kernel_rfl) rfl rfl rfl (fun K' hK => ?_)
     refine ⟨?_⟩
     rw [if_pos (by rfl)]
     go_simp
     refine (C.out _ hH).mono ?_
     rintro e w2 ⟨v1, rfl, h0, h1⟩
     have HV := hU (show RowT w.heap.size w2 v1 N2 from ownsRow_base h0 hH.size)
     clear h0
     refine hK.out _ _ ⟨_, rfl⟩ (hH.next h1) (fun hH2 => ?_)
     clear hK K' hH h1
     have hH := hH2
     clear hH2
     try simp only [zB]
     refine oneH 12 (oi := _) (some 44) (by kernel_rfl) rfl rfl rfl (fun K' hK => ?_)
     refine ⟨?_⟩
     rw [if_pos (by rfl)]
     go_simp
     refine (D1.out _ hH).mono ?_
     rintro e w3 ⟨rfl, h1⟩
     replace HV := hU (HV.out.ext h1)
     refine hK.out _ _ ⟨_, rfl⟩ (hH.next h1) (fun hH2 => ?_)
     clear hK K' hH h1
     have hH := hH2
     clear hH2
     try simp only [zB]
     refine oneH 13 (oi := _) (some 45) (by kernel_rfl) rfl rfl rfl (fun K' hK => ?_)
     refine ⟨?_⟩; rw [if_pos (by rfl)]
     go_simp
     have h1 := Ext.new (Below.refl w3.heap.size w3) (.cells #[.string X] 9)
     have KB := hU (Blk.new w3 9 #[.string X])
     replace HV := hU (HV.out.ext h1)
     refine hK.out _ _ ⟨_, rfl⟩ (hH.next h1) (fun hH2 => ?_)
     clear hK K' hH h1
     have hH := hH2
     clear hH2
     try simp only [zB]
     have L0 := hU HV.out.lt
     generalize w3.alloc (.cells #[.string X] 9) = w4 at *
     generalize w3.heap.size = q at *
     refine oneH 14 (oi := _) (some 46) (by kernel_rfl) rfl rfl rfl (fun K' hK => ?_)
     refine ⟨?_⟩; rw [if_pos (by rfl)]
     refine wp_append_moved _ _ _ 24 (by rfl) w.heap.size 9 i0 _ 1 16 Try.underlying24 hi hz0 hz1 hz2 rfl (by decide) v1 _ _ (by rfl) HV.out ⟨q, 0, none⟩ 1 1 [.string X] (by rfl) rfl ?c1H ?c2H ?c3H ?c4H hH.size (fun v2 w5 ho hf2 hmv => ?_)
     case c1H => exact KB.out.adds
     case c2H => intro u hu; simp at hu; subst hu; rfl
     case c3H => unfold maxLen; omega
     case c4H => omega
     have h1 : Ext w w5 := hf2.toExt hH (fun y hy e => by have := (L0.out _ e).1; omega)
     have HO : Hid (RowT w.heap.size w5 v2 (N2 ++ [X])) := hU (RowT.of ho (by simp) (by simp [sone]))
     refine hK.out (Act.put _ (some 46) v2) _ ⟨_, rfl⟩ (h1) (fun hH2 => ?_)
     clear hK K' hH h1 ho hf2 hmv HV KB L0
     have hH := hH2
     clear hH2
     try simp only [zB]
     refine takeQ 15 (v2) (some 6) rfl rfl (by kernel_rfl) (Or.inl ⟨by rfl, ?yn12⟩) hH ?rn12
     case yn12 => intro w' hS'; go_simp; try with_reducible rfl
     try simp only [zA]
     have he2 := hH
     clear hH
     refine wpAnyH_done (by kernel_rfl) ?_ _
     go_wp2_with fail
     go_ret
     exact ⟨_, rfl, PP.out _ _ HO.out, he2⟩
end Go.Proofs.Ytgeengkdgdjcjaa
