/-
  Root6: No condition.
-/
import Derived.Test.YtgeengkdgdjcjaaBits
import Derived.Test.YtgeengkdgdjcjaaPathOps
import Derived.Test.YtgeengkdgdjcjaaBunch
namespace Go.Proofs.Ytgeengkdgdjcjaa
set_option maxHeartbeats 2000000
set_option maxRecDepth 100000
set_option linter.unusedSimpArgs false
open Go.RowKit
set_option linter.unusedVariables false
theorem l05Root_nil (wd : Int) (A : Option Addr) (c : Nat) (w : World) : Calls Try.prog 21 #[.int .i64 wd, .slice A 0 c] w fun e w' => e = .returned (.string (treeR wd [])) ∧ Ext w w' := by
 have E := hU (show treeR wd [] = emptyR wd from rfl)
 go_enter Try.func21, Try.ntmps21
 go_wp2_with fail
 refine (specEmptyRoot_any wd _).mono ?_
 rintro e w1 ⟨rfl, h1⟩
 go_wp2_with fail
 go_ret
 exact ⟨ret_str E.out.symm, h1⟩
theorem l05Root_any (wd : Int) (hwd : inR wd 1 32 = true) : ∀ (m : Nat) (l : List ByteArray) (A : Option Addr) (c : Nat) (w : World), l.length ≤ m → l.length ≤ 512 → SlF AnyB sone 1 w A l c → (∀ s ∈ l, s.size = wd.toNat) →
 Calls Try.prog 21 #[.int .i64 wd, .slice A l.length c] w fun e w' => e = .returned (.string (treeR wd l)) ∧ Ext w w' := by
 intro m
 induction m with
 | zero =>
   intro l A c w hm _ _ _
   obtain rfl : l = [] := List.eq_nil_of_length_eq_zero (by omega)
   exact l05Root_nil wd A c w
 | succ m ih =>
   intro l A c w hm h5 hr hs
   rcases Nat.lt_or_ge l.length 2 with h2 | h2
   · match l, hm, h5, hr, hs, h2 with
     | [], _, _, _, _, _ => exact l05Root_nil wd A c w
     | [x], _, _, hr, _, _ =>
       obtain ⟨b, off, rfl, hb, hc⟩ := Reads.at_ hr.reads (k := 0) (by simp)
       have c0 : w.cell? ⟨b, off, none⟩ = some (.string x) := hc 0 _ rfl
       have E := hU (show treeR wd [x] = x from rfl)
       clear hc hr ih
       show Calls Try.prog 21 #[.int .i64 wd, .slice (some ⟨b, off, none⟩) 1 c] w _
       go_enter Try.func21, Try.ntmps21
       go_wp2_with fail
       go_ret
       exact ⟨ret_str E.out.symm, Below.refl w.heap.size w⟩
     | _ :: _ :: r, _, _, _, _, h2 => exact absurd h2 (by simp)
   obtain ⟨b, off, rfl, hb, hc⟩ := Reads.at_ hr.reads (k := 0) (by omega)
   have l1 := half_lt h2
   have l2 := half_pos l.length
   have MR : treeR wd l = nodeT wd (treeR wd (l.take (half l.length)) ++ treeR wd (l.drop (half l.length))) := mroot_more _ _ h2
   have HH := hU (specHalfOf_any l.length w h2 h5)
   obtain ⟨hf, hhf⟩ : ∃ hf, hf = half l.length := ⟨_, rfl⟩
   rw [← hhf] at l1 l2 MR HH
   clear hhf hc
   have t1 : (l.take hf).length = hf := by rw [List.length_take]; omega
   have t2 : (l.drop hf).length = l.length - hf := List.length_drop ..
   have sx := treeR_size hwd _ (l.take hf) (Nat.le_refl _) (fun s h => hs s (List.mem_of_mem_take h))
   have sy := treeR_size hwd _ (l.drop hf) (Nat.le_refl _) (fun s h => hs s (List.mem_of_mem_drop h))
   have C1 : Hid (∀ W : World, Ext w W → Calls Try.prog 21 #[.int .i64 wd, .slice (some ⟨b, off, none⟩) hf c] W fun e w' => e = .returned (.string (treeR wd (l.take hf))) ∧ Ext W w') := hU (fun W h => by
    have := ih (l.take hf) (some ⟨b, off, none⟩) c W (by omega) (by omega) (slf_takeT (hr.ext h) hf (by omega)) (fun s h => hs s (List.mem_of_mem_take h))
    rwa [t1] at this)
   have C2 : Hid (∀ W : World, Ext w W → Calls Try.prog 21 #[.int .i64 wd, .slice (some ⟨b, off + hf, none⟩) (l.length - hf) (c - hf)] W fun e w' => e = .returned (.string (treeR wd (l.drop hf))) ∧ Ext W w') := hU (fun W h => by
    have := ih (l.drop hf) (some ⟨b, off + hf, none⟩) (c - hf) W (by omega) (by omega) (slf_dropT (hr.ext h) hf (by omega)) (fun s h => hs s (List.mem_of_mem_drop h))
    rwa [t2] at this)
   obtain ⟨X, hX⟩ : ∃ X, X = treeR wd (l.take hf) := ⟨_, rfl⟩
   obtain ⟨Y, hY⟩ : ∃ Y, Y = treeR wd (l.drop hf) := ⟨_, rfl⟩
   obtain ⟨R, hR⟩ : ∃ R, R = nodeT wd (X ++ Y) := ⟨_, rfl⟩
   rw [← hX] at sx MR C1
   rw [← hY] at sy MR C2
   rw [← hR] at MR
   have NH : Hid (∀ W : World, Calls Try.prog 36 #[.int .i64 wd, .string X, .string Y] W fun e w' => e = .returned (.tuple #[.string R, .bool true]) ∧ Ext W w') := hU (fun W => by rw [hR]; exact specNodeHash_good wd X Y W hwd sx sy)
   have E := hU MR
   have hle := hr.le
   have hcap := hr.cap
   have hcap2 : c ≤ 9223372036854775807 := by unfold maxLen at hcap; omega
   have d0 : ((l.length : Int) == 0) = false := beq_false_of_ne (by omega)
   have d1 : ((l.length : Int) == 1) = false := beq_false_of_ne (by omega)
   have e0 : ¬ (l.length = 0) := by omega
   have e1 : ¬ (l.length = 1) := by omega
   have e2 : ¬ ((l.length : Int) = 1) := by omega
   have hfl : hf ≤ l.length := by omega
   have hfc : hf ≤ c := by omega
   have hcf : ¬ c = hf := by omega
   clear hX hY hR MR sx sy t1 t2 ih hr hs hcap
   go_enter Try.func21, Try.ntmps21
   go_wp2_with fail
   refine HH.out.mono ?_
   rintro e w1 ⟨rfl, rfl⟩
   go_upto_region 8 with fail
   refine wp_region_held_drew (S := fun w' => Ext w w') (by kernel_rfl) (show Ext w w from Below.refl w.heap.size w).drew (fun hH => ?_)
   refine takeQ 0 (.int .i64 wd) (some 29) rfl rfl (by kernel_rfl) (Or.inl ⟨by rfl, ?yz901⟩) hH ?rz901
   case yz901 => intro w' hS'; go_simp; try with_reducible rfl
   try simp only [zA]
   refine takeQ 1 (.int .i64 wd) (some 30) rfl rfl (by kernel_rfl) (Or.inl ⟨by rfl, ?yz902⟩) hH ?rz902
   case yz902 => intro w' hS'; go_simp; try with_reducible rfl
   try simp only [zA]
   refine takeQ 2 (.slice (some ⟨b, off, none⟩) l.length c) (some 31) rfl rfl (by kernel_rfl) (Or.inl ⟨by rfl, ?yz903⟩) hH ?rz903
   case yz903 => intro w' hS'; go_simp; try with_reducible rfl
   try simp only [zA]
   refine takeQ 3 (.int .i64 (hf : Int)) (some 32) rfl rfl (by kernel_rfl) (Or.inl ⟨by rfl, ?yz904⟩) hH ?rz904
   case yz904 => intro w' hS'; go_simp; try with_reducible rfl
   try simp only [zA]
   refine takeQ 4 (.slice (some ⟨b, off, none⟩) hf c) (some 33) rfl rfl (by kernel_rfl) (Or.inl ⟨by rfl, ?yz905⟩) hH ?rz905
   case yz905 => intro w' hS'; go_simp; try with_reducible rfl
   try simp only [zA]
   refine takeQ 6 (.int .i64 wd) (some 35) rfl rfl (by kernel_rfl) (Or.inl ⟨by rfl, ?yz906⟩) hH ?rz906
   case yz906 => intro w' hS'; go_simp; try with_reducible rfl
   try simp only [zA]
   refine takeQ 7 (.slice (some ⟨b, off, none⟩) l.length c) (some 36) rfl rfl (by kernel_rfl) (Or.inl ⟨by rfl, ?yz907⟩) hH ?rz907
   case yz907 => intro w' hS'; go_simp; try with_reducible rfl
   try simp only [zA]
   refine takeQ 8 (.int .i64 (hf : Int)) (some 37) rfl rfl (by kernel_rfl) (Or.inl ⟨by rfl, ?yz908⟩) hH ?rz908
   case yz908 => intro w' hS'; go_simp; try with_reducible rfl
   try simp only [zA]
   refine takeQ 9 (.slice (some ⟨b, off + hf, none⟩) (l.length - hf) (c - hf)) (some 38) rfl rfl (by kernel_rfl) (Or.inl ⟨by rfl, ?yz909⟩) hH ?rz909
   case yz909 => intro w' hS'; go_simp; try with_reducible rfl
   try simp only [zA]
   refine oneH 5 (oi := _) (some 34) (by kernel_rfl) rfl rfl rfl (fun K' hK => ?_)
   refine ⟨?_⟩
   rw [if_pos (by rfl)]
   go_simp
   refine (C1.out _ hH).mono ?_
   rintro e w2 ⟨rfl, h1⟩
   refine hK.out _ _ ⟨_, rfl⟩ (hH.next h1) (fun hH2 => ?_)
   clear hK K' hH h1
   have hH := hH2
   clear hH2
   try simp only [zB]
   refine oneH 10 (oi := _) (some 39) (by kernel_rfl) rfl rfl rfl (fun K' hK => ?_)
   refine ⟨?_⟩
   rw [if_pos (by rfl)]
   go_simp
   refine (C2.out _ hH).mono ?_
   rintro e w2 ⟨rfl, h1⟩
   refine hK.out _ _ ⟨_, rfl⟩ (hH.next h1) (fun hH2 => ?_)
   clear hK K' hH h1
   have hH := hH2
   clear hH2
   try simp only [zB]
   refine oneH 11 (oi := _) (some 40) (by kernel_rfl) rfl rfl rfl (fun K' hK => ?_)
   refine ⟨?_⟩
   rw [if_pos (by rfl)]
   go_simp
   refine (NH.out _).mono ?_
   rintro e w2 ⟨rfl, h1⟩
   refine hK.out _ _ ⟨_, rfl⟩ (hH.next h1) (fun hH2 => ?_)
   clear hK K' hH h1
   have hH := hH2
   clear hH2
   try simp only [zB]
   refine takeQ 12 (.tuple #[.string R, .bool true]) (some 28) rfl rfl (by kernel_rfl) (Or.inl ⟨by rfl, ?yz910⟩) hH ?rz910
   case yz910 => intro w' hS'; go_simp; try with_reducible rfl
   try simp only [zA]
   refine takeQ 13 (.string R) (some 41) rfl rfl (by kernel_rfl) (Or.inl ⟨by rfl, ?yz911⟩) hH ?rz911
   case yz911 => intro w' hS'; go_simp; try with_reducible rfl
   try simp only [zA]
   refine takeQ 14 (.bool true) (some 42) rfl rfl (by kernel_rfl) (Or.inl ⟨by rfl, ?yz912⟩) hH ?rz912
   case yz912 => intro w' hS'; go_simp; try with_reducible rfl
   try simp only [zA]
   refine takeQ 15 (.string R) (some 9) rfl rfl (by kernel_rfl) (Or.inl ⟨by rfl, ?yz913⟩) hH ?rz913
   case yz913 => intro w' hS'; go_simp; try with_reducible rfl
   try simp only [zA]
   refine takeQ 16 (.bool true) (some 10) rfl rfl (by kernel_rfl) (Or.inl ⟨by rfl, ?yz914⟩) hH ?rz914
   case yz914 => intro w' hS'; go_simp; try with_reducible rfl
   try simp only [zA]
   have he2 := hH
   clear hH
   refine wpAnyH_done (by kernel_rfl) ?_ _
   go_wp2_with fail
   go_ret
   exact ⟨ret_str E.out.symm, he2⟩
end Go.Proofs.Ytgeengkdgdjcjaa
