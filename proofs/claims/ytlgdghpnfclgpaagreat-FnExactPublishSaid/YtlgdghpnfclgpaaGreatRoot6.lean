/-
  Root5; Bits; PathOps; Root6: No condition.
-/
import Derived.Test.YtlgdghpnfclgpaaGreatTakeB
import Derived.Test.YtlgdghpnfclgpaaGreatMem
import Derived.Laws.MathBits
import Derived.Test.YtlgdghpnfclgpaaGreatPath
import Derived.Test.YtlgdghpnfclgpaaGreatBunch
namespace Go.Proofs.YtlgdghpnfclgpaaGreat
set_option linter.unusedSimpArgs false
open Go.RowKit
set_option linter.unusedVariables false
theorem slf_takeT {w : World} {b off c : Nat} {l : List ByteArray} (h : SlF AnyB sone 1 w (some ⟨b, off, none⟩) l c) (k : Nat) (hk : k ≤ l.length) : SlF AnyB sone 1 w (some ⟨b, off, none⟩) (l.take k) c :=
 ⟨by have := h.le; rw [List.length_take]; omega, h.cap, reads_take (f := sone) (size := 1) (fun _ => rfl) h.reads k hk, fun _ _ _ => trivial⟩
theorem slf_dropT {w : World} {b off c : Nat} {l : List ByteArray} (h : SlF AnyB sone 1 w (some ⟨b, off, none⟩) l c) (k : Nat) (hk : k < l.length) : SlF AnyB sone 1 w (some ⟨b, off + k, none⟩) (l.drop k) (c - k) := by
 refine ⟨by have := h.le; rw [List.length_drop]; omega, by have := h.cap; omega, ⟨flat_len sone 1 (fun _ => rfl) _, fun hn => ?_⟩, fun _ _ _ => trivial⟩
 obtain ⟨b', off', e, hb, hc⟩ := h.reads.2 (by omega)
 cases e
 refine ⟨b, off + k, rfl, hb, fun j u hu => ?_⟩
 have e1 : l.flatMap sone = (l.take k).flatMap sone ++ (l.drop k).flatMap sone := by rw [← List.flatMap_append, List.take_append_drop]
 have e2 : ((l.take k).flatMap sone).length = k := by rw [flat_len sone 1 (fun _ => rfl) _, List.length_take]; omega
 have := hc (k + j) u (by rw [e1, List.getElem?_append_right (by omega), e2, Nat.add_sub_cancel_left]; exact hu)
 rw [Nat.add_assoc]; exact this
theorem specNodeHash_good (n : Int) (a b : ByteArray) (w : World) (hn : inR n 1 32 = true) (ha : a.size = n.toNat) (hb : b.size = n.toNat) : Calls Tryz.prog 171 #[.int .i64 n, .string a, .string b] w fun e w' => e = .returned (.tuple #[.string (nodeT n (a ++ b)), .bool true]) ∧ Ext w w' := by
 have hn2 := inR_true hn
 have h1 : (a.size : Int) = n := by omega
 have h2 : (b.size : Int) = n := by omega
 have h3 : (a ++ b).size ≤ 4000 := by rw [ByteArray.size_append]; omega
 have E : digestOk n 1 (a ++ b) = true := by rw [digestOk, hn]; simp [inR]; rw [ByteArray.size_append] at h3; omega
 have E := hU E
 have ha2 : a.size ≤ 1000 := by omega
 have hb2 : b.size ≤ 1000 := by omega
 have hs : (a ++ b).size ≤ maxLen := by unfold maxLen; omega
 clear ha hb h3 hn2
 go_enter Tryz.func171, Tryz.ntmps171
 go_wp2_with fail
 refine (l02Width_any n _).mono ?_
 rintro e w1 ⟨rfl, rfl⟩
 go_wp2_with fail
 refine (specDigest_any n 1 (a ++ b) _ hs).mono ?_
 rintro e w1 ⟨rfl, he⟩
 rw [E.out]
 go_wp2_with fail
 go_ret2
 exact ⟨rfl, he⟩

set_option maxHeartbeats 1000000
theorem hashes_no {w : Int} {l : List ByteArray} {k : Nat} (hk : k < l.length) (h : ((l[k].size : Int) == w) = false) : hashes w l = false := by
 rw [hashes, List.all_eq_false]
 exact ⟨l[k], List.getElem_mem hk, by simpa using h⟩
theorem hashes_up {w : Int} {l : List ByteArray} (h : ∀ k (hk : k < l.length), ((l[k].size : Int) == w) = true) : hashes w l = true := by
 rw [hashes, List.all_eq_true]
 intro x hx
 obtain ⟨k, hk, rfl⟩ := List.getElem_of_mem hx
 exact h k hk
theorem l04Hashes_any (n : Int) (A : Option Addr) (c : Nat) (l : List ByteArray) (w : World) (hr : ReadsL w w.heap.size sone 1 A l) (hl : l.length ≤ 1048576) :
 Calls Tryz.prog 187 #[.int .i64 n, .slice A l.length c] w fun e w' => e = .returned (.bool (hashes n l && inR n 1 32)) ∧ Ext w w' := by
 go_enter Tryz.func187, Tryz.ntmps187
 go_wp2_with fail
 go_loopw [5] (fun i wr => ∃ (k : Nat), k ≤ l.length ∧ i = .int .i64 k ∧ (∀ j (hj : j < l.length), j < k → ((l[j].size : Int) == n) = true) ∧ Ext w wr) (fun i _ => l.length - (intOf i).toNat)
 case atStart => exact ⟨0, Nat.zero_le _, rfl, fun j _ h => absurd h (Nat.not_lt_zero _), Below.refl _ _⟩
 case round =>
  obtain ⟨k, hk, rfl, hall, he⟩ := hrel
  have Hall := hU hall; clear hall
  by_cases hlt : k < l.length
  · obtain ⟨b, off, rfl, hb, hc⟩ := Reads.at_ (hr.ext he) (k := k) hlt
    have hdl : l[k]? = some l[k] := List.getElem?_eq_getElem hlt
    have c0 := hc 0 _ (flat_at _ 1 sone_length l k 0 _ hdl (by omega))
    rw [Nat.add_zero, Nat.mul_one] at c0
    clear hc hdl
    have hd : decide ((k : Int) < (l.length : Int)) = true := by rw [decide_eq_true_iff]; omega
    cases b1 : ((l[k].size : Int) == n)
    · have E := hU (hashes_no hlt b1)
      have b2 := ne_of_beq b1
      generalize l[k] = x at *
      go_wp2_with fail
      go_ret
      exact ⟨ret_bool (by rw [E.out]; rfl), he⟩
    · have Hn : Hid (∀ j (hj : j < l.length), j < k + 1 → ((l[j].size : Int) == n) = true) := hU (fun j hj h => by
       rcases Nat.lt_or_ge j k with h1 | h1
       · exact Hall.out j hj h1
       · obtain rfl : j = k := by omega
         exact b1)
      have b2 := ne_of_beq b1
      clear Hall
      generalize l[k] = x at *
      go_wp2_with fail
      go_roundw
      case rel => exact ⟨k + 1, by omega, by go_num, Hn.out, he⟩
      case measure => simp [intOf]; omega
  · have E := hU (hashes_up (fun j hj => Hall.out j hj (by omega)))
    have hd : decide ((k : Int) < (l.length : Int)) = false := by rw [decide_eq_false_iff_not]; omega
    go_wp2_with (go_at_call 129; refine (l02Width_any _ _).mono ?_; rintro e w' ⟨rfl, rfl⟩)
    go_ret
    exact ⟨ret_bool (by rw [E.out]; rfl), he⟩
theorem specHalfOf_any (n : Nat) (w : World) (h0 : 2 ≤ n) (h1 : n ≤ 512) : Calls Tryz.prog 170 #[.int .i64 (n : Int)] w fun e w' => e = .returned (.int .i64 (half n : Int)) ∧ w = w' := by
 have hin : inR (n : Int) 2 512 = true := by simp [inR]; omega
 go_enter Tryz.func170, Tryz.ntmps170
 go_wp2_with (go_at_call 181; refine (l01In_any _ _ _ _).mono ?_; rintro e w' ⟨rfl, rfl⟩; rw [hin])
 have H0 := hU (show (1 : Nat) = 2 ^ 0 from rfl)
 go_loop [3] (fun p => ∃ k m : Nat, p = .int .i64 (m : Int) ∧ 0 < m ∧ m < n ∧ Hid (m = 2 ^ k)) (fun p => n - (intOf p).toNat)
 case atStart => exact ⟨0, 1, rfl, by omega, by omega, H0⟩
 case round =>
  obtain ⟨k, m, rfl, hm1, hlt, hm⟩ := hrel
  by_cases h : 2 * m < n
  · have hd : decide (2 * (m : Int) < (n : Int)) = true := by rw [decide_eq_true_iff]; omega
    have e2 := hU (show 2 * m = 2 ^ (k + 1) by rw [hm.out, Nat.pow_succ]; omega)
    go_wp2_with fail
    go_round
    case rel => exact ⟨k + 1, 2 * m, by go_num, by omega, h, e2⟩
    case measure => simp [intOf]; omega
  · have hd : decide (2 * (m : Int) < (n : Int)) = false := by rw [decide_eq_false_iff_not]; omega
    have e3 := hU (show half n = m by rw [hm.out]; exact half_eq (by have := hm.out; omega) (by have := hm.out; rw [Nat.pow_succ]; omega))
    go_wp2_with fail
    go_ret
    exact ⟨ret_int (by rw [e3.out]), rfl⟩
set_option maxHeartbeats 2000000
set_option maxRecDepth 100000
theorem l05Root_nil (wd : Int) (A : Option Addr) (c : Nat) (w : World) : Calls Tryz.prog 100 #[.int .i64 wd, .slice A 0 c] w fun e w' => e = .returned (.string (treeR wd [])) ∧ Ext w w' := by
 have E := hU (show treeR wd [] = emptyR wd from rfl)
 go_enter Tryz.func100, Tryz.ntmps100
 go_wp2_with fail
 refine (specEmptyRoot_any wd _).mono ?_
 rintro e w1 ⟨rfl, h1⟩
 go_wp2_with fail
 go_ret
 exact ⟨ret_str E.out.symm, h1⟩
theorem l05Root_any (wd : Int) (hwd : inR wd 1 32 = true) : ∀ (m : Nat) (l : List ByteArray) (A : Option Addr) (c : Nat) (w : World), l.length ≤ m → l.length ≤ 512 → SlF AnyB sone 1 w A l c → (∀ s ∈ l, s.size = wd.toNat) →
 Calls Tryz.prog 100 #[.int .i64 wd, .slice A l.length c] w fun e w' => e = .returned (.string (treeR wd l)) ∧ Ext w w' := by
 intro m
 induction m with
 | zero =>
   intro l A c w hm _ _ _
   obtain rfl : l = [] := List.eq_nil_of_length_eq_zero (by omega)
   exact l05Root_nil wd A c w
 | succ m ih =>
   intro l A c w hm h5 hr hs
   rcases Nat.lt_or_ge l.length 2 with h2 | h2
   · match l, hm, h5, hr, hs, h2 with
     | [], _, _, _, _, _ => exact l05Root_nil wd A c w
     | [x], _, _, hr, _, _ =>
       obtain ⟨b, off, rfl, hb, hc⟩ := Reads.at_ hr.reads (k := 0) (by simp)
       have c0 : w.cell? ⟨b, off, none⟩ = some (.string x) := hc 0 _ rfl
       have E := hU (show treeR wd [x] = x from rfl)
       clear hc hr ih
       show Calls Tryz.prog 100 #[.int .i64 wd, .slice (some ⟨b, off, none⟩) 1 c] w _
       go_enter Tryz.func100, Tryz.ntmps100
       go_wp2_with fail
       go_ret
       exact ⟨ret_str E.out.symm, Below.refl w.heap.size w⟩
     | _ :: _ :: r, _, _, _, _, h2 => exact absurd h2 (by simp)
   obtain ⟨b, off, rfl, hb, hc⟩ := Reads.at_ hr.reads (k := 0) (by omega)
   have l1 := half_lt h2
   have l2 := half_pos l.length
   have MR : treeR wd l = nodeT wd (treeR wd (l.take (half l.length)) ++ treeR wd (l.drop (half l.length))) := mroot_more _ _ h2
   have HH := hU (specHalfOf_any l.length w h2 h5)
   obtain ⟨hf, hhf⟩ : ∃ hf, hf = half l.length := ⟨_, rfl⟩
   rw [← hhf] at l1 l2 MR HH
   clear hhf hc
   have t1 : (l.take hf).length = hf := by rw [List.length_take]; omega
   have t2 : (l.drop hf).length = l.length - hf := List.length_drop ..
   have sx := treeR_size hwd _ (l.take hf) (Nat.le_refl _) (fun s h => hs s (List.mem_of_mem_take h))
   have sy := treeR_size hwd _ (l.drop hf) (Nat.le_refl _) (fun s h => hs s (List.mem_of_mem_drop h))
   have C1 : Hid (∀ W : World, Ext w W → Calls Tryz.prog 100 #[.int .i64 wd, .slice (some ⟨b, off, none⟩) hf c] W fun e w' => e = .returned (.string (treeR wd (l.take hf))) ∧ Ext W w') := hU (fun W h => by
    have := ih (l.take hf) (some ⟨b, off, none⟩) c W (by omega) (by omega) (slf_takeT (hr.ext h) hf (by omega)) (fun s h => hs s (List.mem_of_mem_take h))
    rwa [t1] at this)
   have C2 : Hid (∀ W : World, Ext w W → Calls Tryz.prog 100 #[.int .i64 wd, .slice (some ⟨b, off + hf, none⟩) (l.length - hf) (c - hf)] W fun e w' => e = .returned (.string (treeR wd (l.drop hf))) ∧ Ext W w') := hU (fun W h => by
    have := ih (l.drop hf) (some ⟨b, off + hf, none⟩) (c - hf) W (by omega) (by omega) (slf_dropT (hr.ext h) hf (by omega)) (fun s h => hs s (List.mem_of_mem_drop h))
    rwa [t2] at this)
   obtain ⟨X, hX⟩ : ∃ X, X = treeR wd (l.take hf) := ⟨_, rfl⟩
   obtain ⟨Y, hY⟩ : ∃ Y, Y = treeR wd (l.drop hf) := ⟨_, rfl⟩
   obtain ⟨R, hR⟩ : ∃ R, R = nodeT wd (X ++ Y) := ⟨_, rfl⟩
   rw [← hX] at sx MR C1
   rw [← hY] at sy MR C2
   rw [← hR] at MR
   have NH : Hid (∀ W : World, Calls Tryz.prog 171 #[.int .i64 wd, .string X, .string Y] W fun e w' => e = .returned (.tuple #[.string R, .bool true]) ∧ Ext W w') := hU (fun W => by rw [hR]; exact specNodeHash_good wd X Y W hwd sx sy)
   have E := hU MR
   have hle := hr.le
   have hcap := hr.cap
   have hcap2 : c ≤ 9223372036854775807 := by unfold maxLen at hcap; omega
   have d0 : ((l.length : Int) == 0) = false := beq_false_of_ne (by omega)
   have d1 : ((l.length : Int) == 1) = false := beq_false_of_ne (by omega)
   have e0 : ¬ (l.length = 0) := by omega
   have e1 : ¬ (l.length = 1) := by omega
   have e2 : ¬ ((l.length : Int) = 1) := by omega
   have hfl : hf ≤ l.length := by omega
   have hfc : hf ≤ c := by omega
   have hcf : ¬ c = hf := by omega
   clear hX hY hR MR sx sy t1 t2 ih hr hs hcap
   go_enter Tryz.func100, Tryz.ntmps100
   go_wp2_with fail
   refine HH.out.mono ?_
   rintro e w1 ⟨rfl, rfl⟩
   go_upto_region 8 with fail
   refine wp_region_held_drew (S := fun w' => Ext w w') (by kernel_rfl) (show Ext w w from Below.refl w.heap.size w).drew (fun hH => ?_)
   refine takeQ 0 (.int .i64 wd) (some 29) rfl rfl (by kernel_rfl) (Or.inl ⟨by rfl, ?yz901⟩) hH ?rz901
   case yz901 => intro w' hS'; go_simp; try with_reducible rfl
   try simp only [zA]
   refine takeQ 1 (.int .i64 wd) (some 30) rfl rfl (by kernel_rfl) (Or.inl ⟨by rfl, ?yz902⟩) hH ?rz902
   case yz902 => intro w' hS'; go_simp; try with_reducible rfl
   try simp only [zA]
   refine takeQ 2 (.slice (some ⟨b, off, none⟩) l.length c) (some 31) rfl rfl (by kernel_rfl) (Or.inl ⟨by rfl, ?yz903⟩) hH ?rz903
   case yz903 => intro w' hS'; go_simp; try with_reducible rfl
   try simp only [zA]
   refine takeQ 3 (.int .i64 (hf : Int)) (some 32) rfl rfl (by kernel_rfl) (Or.inl ⟨by rfl, ?yz904⟩) hH ?rz904
   case yz904 => intro w' hS'; go_simp; try with_reducible rfl
   try simp only [zA]
   refine takeQ 4 (.slice (some ⟨b, off, none⟩) hf c) (some 33) rfl rfl (by kernel_rfl) (Or.inl ⟨by rfl, ?yz905⟩) hH ?rz905
   case yz905 => intro w' hS'; go_simp; try with_reducible rfl
   try simp only [zA]
   refine takeQ 6 (.int .i64 wd) (some 35) rfl rfl (by kernel_rfl) (Or.inl ⟨by rfl, ?yz906⟩) hH ?rz906
   case yz906 => intro w' hS'; go_simp; try with_reducible rfl
   try simp only [zA]
   refine takeQ 7 (.slice (some ⟨b, off, none⟩) l.length c) (some 36) rfl rfl (by kernel_rfl) (Or.inl ⟨by rfl, ?yz907⟩) hH ?rz907
   case yz907 => intro w' hS'; go_simp; try with_reducible rfl
   try simp only [zA]
   refine takeQ 8 (.int .i64 (hf : Int)) (some 37) rfl rfl (by kernel_rfl) (Or.inl ⟨by rfl, ?yz908⟩) hH ?rz908
   case yz908 => intro w' hS'; go_simp; try with_reducible rfl
   try simp only [zA]
   refine takeQ 9 (.slice (some ⟨b, off + hf, none⟩) (l.length - hf) (c - hf)) (some 38) rfl rfl (by kernel_rfl) (Or.inl ⟨by rfl, ?yz909⟩) hH ?rz909
   case yz909 => intro w' hS'; go_simp; try with_reducible rfl
   try simp only [zA]
   refine oneH 5 (oi := _) (some 34) (by kernel_rfl) rfl rfl rfl (fun K' hK => ?_)
   refine ⟨?_⟩
   rw [if_pos (by rfl)]
   go_simp
   refine (C1.out _ hH).mono ?_
   rintro e w2 ⟨rfl, h1⟩
   refine hK.out _ _ ⟨_, rfl⟩ (hH.next h1) (fun hH2 => ?_)
   clear hK K' hH h1
   have hH := hH2
   clear hH2
   try simp only [zB]
   refine oneH 10 (oi := _) (some 39) (by kernel_rfl) rfl rfl rfl (fun K' hK => ?_)
   refine ⟨?_⟩
   rw [if_pos (by rfl)]
   go_simp
   refine (C2.out _ hH).mono ?_
   rintro e w2 ⟨rfl, h1⟩
   refine hK.out _ _ ⟨_, rfl⟩ (hH.next h1) (fun hH2 => ?_)
   clear hK K' hH h1
   have hH := hH2
   clear hH2
   try simp only [zB]
   refine oneH 11 (oi := _) (some 40) (by kernel_rfl) rfl rfl rfl (fun K' hK => ?_)
   refine ⟨?_⟩
   rw [if_pos (by rfl)]
   go_simp
   refine (NH.out _).mono ?_
   rintro e w2 ⟨rfl, h1⟩
   refine hK.out _ _ ⟨_, rfl⟩ (hH.next h1) (fun hH2 => ?_)
   clear hK K' hH h1
   have hH := hH2
   clear hH2
   try simp only [zB]
   refine takeQ 12 (.tuple #[.string R, .bool true]) (some 28) rfl rfl (by kernel_rfl) (Or.inl ⟨by rfl, ?yz910⟩) hH ?rz910
   case yz910 => intro w' hS'; go_simp; try with_reducible rfl
   try simp only [zA]
   refine takeQ 13 (.string R) (some 41) rfl rfl (by kernel_rfl) (Or.inl ⟨by rfl, ?yz911⟩) hH ?rz911
   case yz911 => intro w' hS'; go_simp; try with_reducible rfl
   try simp only [zA]
   refine takeQ 14 (.bool true) (some 42) rfl rfl (by kernel_rfl) (Or.inl ⟨by rfl, ?yz912⟩) hH ?rz912
   case yz912 => intro w' hS'; go_simp; try with_reducible rfl
   try simp only [zA]
   refine takeQ 15 (.string R) (some 9) rfl rfl (by kernel_rfl) (Or.inl ⟨by rfl, ?yz913⟩) hH ?rz913
   case yz913 => intro w' hS'; go_simp; try with_reducible rfl
   try simp only [zA]
   refine takeQ 16 (.bool true) (some 10) rfl rfl (by kernel_rfl) (Or.inl ⟨by rfl, ?yz914⟩) hH ?rz914
   case yz914 => intro w' hS'; go_simp; try with_reducible rfl
   try simp only [zA]
   have he2 := hH
   clear hH
   refine wpAnyH_done (by kernel_rfl) ?_ _
   go_wp2_with fail
   go_ret
   exact ⟨ret_str E.out.symm, he2⟩
end Go.Proofs.YtlgdghpnfclgpaaGreat
