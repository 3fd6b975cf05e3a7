/-
  HeadTx; GrowA; MoreB; FollowsB: No condition.
-/
import Derived.Test.YthnpdoadmglipaaGreatMapRec
import Derived.Test.YthnpdoadmglipaaGreatBunch
import Derived.Test.YthnpdoadmglipaaGreatReopenR
import Derived.Test.YthnpdoadmglipaaGreatBrkNew
import Derived.Test.YthnpdoadmglipaaGreatBroker0
namespace Go.Proofs.YthnpdoadmglipaaGreat
set_option maxHeartbeats 2000000
set_option maxRecDepth 100000
set_option linter.unusedSimpArgs false
open Go.RowKit
set_option linter.unusedVariables false
theorem implHeadText_any (n : Int) (d : HeadD) (w : World) : Calls Tryz.prog 9 #[.int .i64 n, .agg #[.int .i64 d.number, .int .i64 d.size, .string d.root, .int .i64 d.taken, .string d.takenRoot]] w fun e w' => e = .returned (.tuple #[.string (headText n d), .bool (headOk n d)]) ∧ Ext w w' := by
 have B0 := Blk.new w 33 #[.int .i64 d.number, .int .i64 d.size, .string d.root, .int .i64 d.taken, .string d.takenRoot]
 have he := Ext.new (Below.refl w.heap.size w) (.cells #[.int .i64 d.number, .int .i64 d.size, .string d.root, .int .i64 d.taken, .string d.takenRoot] 33)
 cases b : headOk n d
 · have Ht := hU (show headText n d = ⟨#[]⟩ by simp [headText, b])
   have He := hU he
   clear B0 he
   go_enter Tryz.func9, Tryz.ntmps9
   go_wp2_with fail
   refine (implHeadOk_any n d _).mono ?_
   rintro e w1 ⟨rfl, h1⟩
   have he := He.out.next h1
   rw [b]
   go_wp2_with fail
   go_ret2
   exact ⟨by rw [Ht.out]; rfl, he⟩
 · obtain ⟨z0, z1, z2, z3, z4, z5, z6, z7, z8, z9⟩ := headOk_bounds b
   obtain ⟨p1, hp1⟩ : ∃ p1, p1 = octB (d.number / 256) ++ octB d.number := ⟨_, rfl⟩
   obtain ⟨p2, hp2⟩ : ∃ p2, p2 = octB (d.size / 256) ++ octB d.size := ⟨_, rfl⟩
   obtain ⟨p3, hp3⟩ : ∃ p3, p3 = octB (d.taken / 256) ++ octB d.taken := ⟨_, rfl⟩
   have C1 := hU (show ∀ W, Calls Tryz.prog 27 #[.int .i64 d.number] W fun e w' => e = .returned (.string p1) ∧ Ext W w' from fun W => by rw [hp1]; exact pair_any _ W (by omega) (by omega))
   have C2 := hU (show ∀ W, Calls Tryz.prog 27 #[.int .i64 d.size] W fun e w' => e = .returned (.string p2) ∧ Ext W w' from fun W => by rw [hp2]; exact pair_any _ W (by omega) (by omega))
   have C3 := hU (show ∀ W, Calls Tryz.prog 27 #[.int .i64 d.taken] W fun e w' => e = .returned (.string p3) ∧ Ext W w' from fun W => by rw [hp3]; exact pair_any _ W (by omega) (by omega))
   have low : ∀ k : Int, 0 ≤ k → lowB k.toNat 2 = octB (k / 256) ++ octB k := fun k hk => by
    rw [lowB_two, Int.toNat_of_nonneg hk]
   have Ht := hU (show headText n d = p1 ++ p2 ++ d.root ++ p3 ++ d.takenRoot by rw [headText, if_pos b, headT, low _ z2, low _ z4, low _ z7, hp1, hp2, hp3])
   have y1 : p1.size = 2 := by rw [hp1]; rfl
   have y2 : p2.size = 2 := by rw [hp2]; rfl
   have y3 : p3.size = 2 := by rw [hp3]; rfl
   have n1 : ¬ 9223372036854775807 < p1.size + p2.size := by omega
   have n2 : ¬ 9223372036854775807 < p1.size + p2.size + d.root.size := by omega
   have n3 : ¬ 9223372036854775807 < p1.size + p2.size + d.root.size + p3.size := by omega
   have n4 : ¬ 9223372036854775807 < p1.size + p2.size + d.root.size + p3.size + d.takenRoot.size := by omega
   clear z0 z1 z2 z3 z4 z5 z6 z7 z8 z9 hp1 hp2 hp3 low y1 y2 y3
   go_enter Tryz.func9, Tryz.ntmps9
   go_wp2_with fail
   obtain ⟨g, hg⟩ : ∃ g, g = w.heap.size := ⟨_, rfl⟩
   rw [← hg] at B0
   rw [← hg]
   clear hg
   refine (implHeadOk_any n d _).mono ?_
   rintro e w1 ⟨rfl, h1⟩
   replace he := he.next h1
   replace B0 := B0.ext h1
   rw [b]
   clear h1
   go_upto_region 3 with fail
   refine wp_region_held_drew (S := fun w' => Blk w' g 33 #[.int .i64 d.number, .int .i64 d.size, .string d.root, .int .i64 d.taken, .string d.takenRoot] ∧ Ext w w') (by kernel_rfl) ⟨B0.drew, he.drew⟩ (fun hH => ?_)
   clear B0 he
   refine takeQ 0 (.pointer (some ⟨g, 0, none⟩)) (some 10) rfl rfl (by kernel_rfl) (Or.inl ⟨by rfl, ?yh1⟩) hH ?rh1
   case yh1 => intro w' hS'; go_simp; try with_reducible rfl
   try simp only [zA]
   refine takeQ 1 (.int .i64 d.number) (some 11) rfl rfl (by kernel_rfl) (Or.inl ⟨by rfl, ?yh2⟩) hH ?rh2
   case yh2 => intro w' hS'; have A0 := hS'.1; obtain ⟨r0, f0⟩ := A0.rules; go_simp; try with_reducible rfl
   try simp only [zA]
   refine takeQ 3 (.pointer (some ⟨g, 1, none⟩)) (some 13) rfl rfl (by kernel_rfl) (Or.inl ⟨by rfl, ?yh3⟩) hH ?rh3
   case yh3 => intro w' hS'; go_simp; try with_reducible rfl
   try simp only [zA]
   refine takeQ 4 (.int .i64 d.size) (some 14) rfl rfl (by kernel_rfl) (Or.inl ⟨by rfl, ?yh4⟩) hH ?rh4
   case yh4 => intro w' hS'; have A0 := hS'.1; obtain ⟨r0, f0⟩ := A0.rules; go_simp; try with_reducible rfl
   try simp only [zA]
   refine takeQ 7 (.pointer (some ⟨g, 2, none⟩)) (some 17) rfl rfl (by kernel_rfl) (Or.inl ⟨by rfl, ?yh5⟩) hH ?rh5
   case yh5 => intro w' hS'; go_simp; try with_reducible rfl
   try simp only [zA]
   refine takeQ 8 (.string d.root) (some 18) rfl rfl (by kernel_rfl) (Or.inl ⟨by rfl, ?yh6⟩) hH ?rh6
   case yh6 => intro w' hS'; have A0 := hS'.1; obtain ⟨r0, f0⟩ := A0.rules; go_simp; try with_reducible rfl
   try simp only [zA]
   refine takeQ 10 (.pointer (some ⟨g, 3, none⟩)) (some 20) rfl rfl (by kernel_rfl) (Or.inl ⟨by rfl, ?yh7⟩) hH ?rh7
   case yh7 => intro w' hS'; go_simp; try with_reducible rfl
   try simp only [zA]
   refine takeQ 11 (.int .i64 d.taken) (some 21) rfl rfl (by kernel_rfl) (Or.inl ⟨by rfl, ?yh8⟩) hH ?rh8
   case yh8 => intro w' hS'; have A0 := hS'.1; obtain ⟨r0, f0⟩ := A0.rules; go_simp; try with_reducible rfl
   try simp only [zA]
   refine takeQ 14 (.pointer (some ⟨g, 4, none⟩)) (some 24) rfl rfl (by kernel_rfl) (Or.inl ⟨by rfl, ?yh9⟩) hH ?rh9
   case yh9 => intro w' hS'; go_simp; try with_reducible rfl
   try simp only [zA]
   refine takeQ 15 (.string d.takenRoot) (some 25) rfl rfl (by kernel_rfl) (Or.inl ⟨by rfl, ?yh10⟩) hH ?rh10
   case yh10 => intro w' hS'; have A0 := hS'.1; obtain ⟨r0, f0⟩ := A0.rules; go_simp; try with_reducible rfl
   try simp only [zA]
   refine oneH 2 (oi := _) (some 12) (by kernel_rfl) rfl rfl rfl (fun K' hK => ?_)
   refine ⟨?_⟩
   rw [if_pos (by rfl)]
   go_simp
   refine (C1.out _).mono ?_
   rintro e w2 ⟨rfl, h1⟩
   refine hK.out _ _ ⟨_, rfl⟩ (⟨hH.1.ext h1, hH.2.next h1⟩) (fun hH2 => ?_)
   clear hK K' hH h1
   have hH := hH2
   clear hH2
   try simp only [zB]
   refine oneH 5 (oi := _) (some 15) (by kernel_rfl) rfl rfl rfl (fun K' hK => ?_)
   refine ⟨?_⟩
   rw [if_pos (by rfl)]
   go_simp
   refine (C2.out _).mono ?_
   rintro e w2 ⟨rfl, h1⟩
   refine hK.out _ _ ⟨_, rfl⟩ (⟨hH.1.ext h1, hH.2.next h1⟩) (fun hH2 => ?_)
   clear hK K' hH h1
   have hH := hH2
   clear hH2
   try simp only [zB]
   refine takeQ 6 (.string (p1 ++ p2)) (some 16) rfl rfl (by kernel_rfl) (Or.inl ⟨by rfl, ?yh11⟩) hH ?rh11
   case yh11 => intro w' hS'; have A0 := hS'.1; obtain ⟨r0, f0⟩ := A0.rules; go_simp; try with_reducible rfl
   try simp only [zA]
   refine takeQ 9 (.string (p1 ++ p2 ++ d.root)) (some 19) rfl rfl (by kernel_rfl) (Or.inl ⟨by rfl, ?yh12⟩) hH ?rh12
   case yh12 => intro w' hS'; have A0 := hS'.1; obtain ⟨r0, f0⟩ := A0.rules; go_simp; try with_reducible rfl
   try simp only [zA]
   refine oneH 12 (oi := _) (some 22) (by kernel_rfl) rfl rfl rfl (fun K' hK => ?_)
   refine ⟨?_⟩
   rw [if_pos (by rfl)]
   go_simp
   refine (C3.out _).mono ?_
   rintro e w2 ⟨rfl, h1⟩
   refine hK.out _ _ ⟨_, rfl⟩ (⟨hH.1.ext h1, hH.2.next h1⟩) (fun hH2 => ?_)
   clear hK K' hH h1
   have hH := hH2
   clear hH2
   try simp only [zB]
   refine takeQ 13 (.string (p1 ++ p2 ++ d.root ++ p3)) (some 23) rfl rfl (by kernel_rfl) (Or.inl ⟨by rfl, ?yh13⟩) hH ?rh13
   case yh13 => intro w' hS'; have A0 := hS'.1; obtain ⟨r0, f0⟩ := A0.rules; go_simp; try with_reducible rfl
   try simp only [zA]
   refine takeQ 16 (.string (p1 ++ p2 ++ d.root ++ p3 ++ d.takenRoot)) (some 26) rfl rfl (by kernel_rfl) (Or.inl ⟨by rfl, ?yh14⟩) hH ?rh14
   case yh14 => intro w' hS'; have A0 := hS'.1; obtain ⟨r0, f0⟩ := A0.rules; go_simp; try with_reducible rfl
   try simp only [zA]
   refine takeQ 17 (.string (p1 ++ p2 ++ d.root ++ p3 ++ d.takenRoot)) (some 4) rfl rfl (by kernel_rfl) (Or.inl ⟨by rfl, ?yh15⟩) hH ?rh15
   case yh15 => intro w' hS'; have A0 := hS'.1; obtain ⟨r0, f0⟩ := A0.rules; go_simp; try with_reducible rfl
   try simp only [zA]
   refine takeQ 18 (.bool true) (some 5) rfl rfl (by kernel_rfl) (Or.inl ⟨by rfl, ?yh16⟩) hH ?rh16
   case yh16 => intro w' hS'; go_simp; try with_reducible rfl
   try simp only [zA]
   have he := hH.2
   clear hH n1 n2 n3 n4
   refine wpAnyH_done (by kernel_rfl) ?_ _
   go_wp2_with fail
   go_ret2
   exact ⟨by rw [Ht.out]; rfl, he⟩
theorem rootS_of {α : Type} (nd : α → α → α) (e : α) {ps : List α} {k : Nat} {t : α} (h : ps[k]? = some t) (hk : ps.length = k + 1) : rootS nd e ps.reverse = (ps.take k).reverse.foldl (fun r p => nd p r) t := by
 obtain ⟨hlt, rfl⟩ := List.getElem?_eq_some_iff.1 h
 have : ps = ps.take k ++ [ps[k]] := by
  conv => lhs; rw [← List.take_length (l := ps), hk, List.take_succ_eq_append_getElem hlt]
 conv => lhs; rw [this]
 rw [List.reverse_append, List.reverse_singleton, List.singleton_append, rootS]
theorem fold_next {α : Type} (nd : α → α → α) {ps : List α} {k : Nat} {t r : α} (h : ps[k]? = some t) : (ps.take (k + 1)).reverse.foldl (fun r p => nd p r) r = (ps.take k).reverse.foldl (fun r p => nd p r) (nd t r) := by
 obtain ⟨hlt, rfl⟩ := List.getElem?_eq_some_iff.1 h
 rw [List.take_succ_eq_append_getElem hlt, List.reverse_append, List.reverse_singleton, List.singleton_append, List.foldl_cons]
def sealCs (n1 : Int) (v1 : Value) (n2 : Int) (v2 : Value) (h : HeadD) : List Value := [.int .i64 n1, v1, .int .i64 n2, v2, .int .i64 h.number, .int .i64 h.size, .string h.root, .int .i64 h.taken, .string h.takenRoot]
theorem RowT.reads {B : Nat} {w : World} {v : Value} {ts : List ByteArray} (h : RowT B w v ts) : ∃ A c, v = .slice A ts.length c ∧ ts.length ≤ c ∧ ReadsL w w.heap.size sone 1 A ts := by
 obtain ⟨A, c, rfl, hc⟩ := ownsRow_form h
 exact ⟨A, c, rfl, hc, Reads.of_own h⟩
set_option maxHeartbeats 4000000
theorem followsB_n {n : Int} {a b : HeadD} (h : decide (b.number ≤ a.number) = true) : followsB n a b = false := by
 have := of_decide_eq_true h
 rw [followsB, decide_eq_false (show ¬ a.number < b.number by omega)]; simp
theorem followsB_s {n : Int} {a b : HeadD} (h : decide (b.size < a.size) = true) : followsB n a b = false := by
 have := of_decide_eq_true h
 rw [followsB, decide_eq_false (show ¬ a.size ≤ b.size by omega)]; simp
theorem followsB_t {n : Int} {a b : HeadD} (h : decide (b.taken < a.taken) = true) : followsB n a b = false := by
 have := of_decide_eq_true h
 rw [followsB, decide_eq_false (show ¬ a.taken ≤ b.taken by omega)]; simp
theorem followsB_p {n : Int} {a b : HeadD} (b1 : headOk n a = true) (b2 : headOk n b = true) (h1 : decide (b.number ≤ a.number) = false) (h2 : decide (b.size < a.size) = false) (h3 : decide (b.taken < a.taken) = false) : followsB n a b = !parted a b := by
 have := of_decide_eq_false h1
 have := of_decide_eq_false h2
 have := of_decide_eq_false h3
 rw [followsB, b1, b2, decide_eq_true (show a.number < b.number by omega), decide_eq_true (show a.size ≤ b.size by omega), decide_eq_true (show a.taken ≤ b.taken by omega)]; simp
theorem implFollows_any (n : Int) (a b : HeadD) (w : World) : Calls Tryz.prog 12 #[.int .i64 n, .agg #[.int .i64 a.number, .int .i64 a.size, .string a.root, .int .i64 a.taken, .string a.takenRoot], .agg #[.int .i64 b.number, .int .i64 b.size, .string b.root, .int .i64 b.taken, .string b.takenRoot]] w fun e w' => e = .returned (.bool (followsB n a b)) ∧ Ext w w' := by
 obtain ⟨B0, B1, he⟩ := two_blks w #[.int .i64 a.number, .int .i64 a.size, .string a.root, .int .i64 a.taken, .string a.takenRoot] #[.int .i64 b.number, .int .i64 b.size, .string b.root, .int .i64 b.taken, .string b.takenRoot] 33 33
 have K0 := hU B0; have K1 := hU B1; have He := hU he
 obtain ⟨r0, m0⟩ := B0.rules
 obtain ⟨r1, m1⟩ := B1.rules
 clear B0 B1 he
 obtain ⟨fin, hfin⟩ : ∃ fin, fin = followsB n a b := ⟨_, rfl⟩
 rw [← hfin]
 cases b1 : headOk n a
 · have E := hU (show fin = false by rw [hfin]; simp [followsB, b1])
   clear hfin
   go_enter Tryz.func12, Tryz.ntmps12
   go_wp2_with fail
   obtain ⟨g, hg⟩ : ∃ g, g = w.heap.size := ⟨_, rfl⟩
   rw [← hg] at K0 K1
   rw [← hg]
   clear hg r0 m0 r1 m1
   have C0 := K0.out; have C1 := K1.out; have he := He.out
   clear K0 K1 He
   refine (implHeadOk_any n a _).mono ?_
   rintro e w1 ⟨rfl, h1⟩
   replace C0 := C0.ext h1; replace C1 := C1.ext h1; replace he := he.next h1; clear h1
   obtain ⟨r0, m0⟩ := C0.rules
   obtain ⟨r1, m1⟩ := C1.rules
   go_wp2_with fail
   go_ret
   exact ⟨ret_bool E.out.symm, he⟩
 cases b2 : headOk n b
 · have E := hU (show fin = false by rw [hfin]; simp [followsB, b2])
   clear hfin
   go_enter Tryz.func12, Tryz.ntmps12
   go_wp2_with fail
   obtain ⟨g, hg⟩ : ∃ g, g = w.heap.size := ⟨_, rfl⟩
   rw [← hg] at K0 K1
   rw [← hg]
   clear hg r0 m0 r1 m1
   have C0 := K0.out; have C1 := K1.out; have he := He.out
   clear K0 K1 He
   refine (implHeadOk_any n a _).mono ?_
   rintro e w2 ⟨rfl, h1⟩
   replace C0 := C0.ext h1; replace C1 := C1.ext h1; replace he := he.next h1; clear h1
   obtain ⟨r0, m0⟩ := C0.rules
   obtain ⟨r1, m1⟩ := C1.rules
   go_wp2_with fail
   refine (implHeadOk_any n b _).mono ?_
   rintro e w3 ⟨rfl, h1⟩
   replace C0 := C0.ext h1; replace C1 := C1.ext h1; replace he := he.next h1; clear h1
   clear r0 m0 r1 m1
   obtain ⟨r0, m0⟩ := C0.rules
   obtain ⟨r1, m1⟩ := C1.rules
   go_wp2_with fail
   go_ret
   exact ⟨ret_bool E.out.symm, he⟩
 cases d1 : decide (b.number ≤ a.number)
 case true =>
  have E := hU (show fin = false by rw [hfin]; exact followsB_n d1)
  clear hfin
  go_enter Tryz.func12, Tryz.ntmps12
  go_wp2_with fail
  obtain ⟨g, hg⟩ : ∃ g, g = w.heap.size := ⟨_, rfl⟩
  rw [← hg] at K0 K1
  rw [← hg]
  clear hg r0 m0 r1 m1
  have C0 := K0.out; have C1 := K1.out; have he := He.out
  clear K0 K1 He
  refine (implHeadOk_any n a _).mono ?_
  rintro e w4 ⟨rfl, h1⟩
  replace C0 := C0.ext h1; replace C1 := C1.ext h1; replace he := he.next h1; clear h1
  obtain ⟨r0, m0⟩ := C0.rules
  obtain ⟨r1, m1⟩ := C1.rules
  go_wp2_with fail
  refine (implHeadOk_any n b _).mono ?_
  rintro e w5 ⟨rfl, h1⟩
  replace C0 := C0.ext h1; replace C1 := C1.ext h1; replace he := he.next h1; clear h1
  clear r0 m0 r1 m1
  obtain ⟨r0, m0⟩ := C0.rules
  obtain ⟨r1, m1⟩ := C1.rules
  go_wp2_with fail
  go_ret
  exact ⟨ret_bool E.out.symm, he⟩
 cases d2 : decide (b.size < a.size)
 case true =>
  have E := hU (show fin = false by rw [hfin]; exact followsB_s d2)
  clear hfin
  go_enter Tryz.func12, Tryz.ntmps12
  go_wp2_with fail
  obtain ⟨g, hg⟩ : ∃ g, g = w.heap.size := ⟨_, rfl⟩
  rw [← hg] at K0 K1
  rw [← hg]
  clear hg r0 m0 r1 m1
  have C0 := K0.out; have C1 := K1.out; have he := He.out
  clear K0 K1 He
  refine (implHeadOk_any n a _).mono ?_
  rintro e w6 ⟨rfl, h1⟩
  replace C0 := C0.ext h1; replace C1 := C1.ext h1; replace he := he.next h1; clear h1
  obtain ⟨r0, m0⟩ := C0.rules
  obtain ⟨r1, m1⟩ := C1.rules
  go_wp2_with fail
  refine (implHeadOk_any n b _).mono ?_
  rintro e w7 ⟨rfl, h1⟩
  replace C0 := C0.ext h1; replace C1 := C1.ext h1; replace he := he.next h1; clear h1
  clear r0 m0 r1 m1
  obtain ⟨r0, m0⟩ := C0.rules
  obtain ⟨r1, m1⟩ := C1.rules
  go_wp2_with fail
  go_ret
  exact ⟨ret_bool E.out.symm, he⟩
 cases d3 : decide (b.taken < a.taken)
 case true =>
  have E := hU (show fin = false by rw [hfin]; exact followsB_t d3)
  clear hfin
  go_enter Tryz.func12, Tryz.ntmps12
  go_wp2_with fail
  obtain ⟨g, hg⟩ : ∃ g, g = w.heap.size := ⟨_, rfl⟩
  rw [← hg] at K0 K1
  rw [← hg]
  clear hg r0 m0 r1 m1
  have C0 := K0.out; have C1 := K1.out; have he := He.out
  clear K0 K1 He
  refine (implHeadOk_any n a _).mono ?_
  rintro e w8 ⟨rfl, h1⟩
  replace C0 := C0.ext h1; replace C1 := C1.ext h1; replace he := he.next h1; clear h1
  obtain ⟨r0, m0⟩ := C0.rules
  obtain ⟨r1, m1⟩ := C1.rules
  go_wp2_with fail
  refine (implHeadOk_any n b _).mono ?_
  rintro e w9 ⟨rfl, h1⟩
  replace C0 := C0.ext h1; replace C1 := C1.ext h1; replace he := he.next h1; clear h1
  clear r0 m0 r1 m1
  obtain ⟨r0, m0⟩ := C0.rules
  obtain ⟨r1, m1⟩ := C1.rules
  go_wp2_with fail
  go_ret
  exact ⟨ret_bool E.out.symm, he⟩
 have E := hU (show fin = !parted a b by rw [hfin]; exact followsB_p b1 b2 d1 d2 d3)
 clear hfin
 go_enter Tryz.func12, Tryz.ntmps12
 go_wp2_with fail
 obtain ⟨g, hg⟩ : ∃ g, g = w.heap.size := ⟨_, rfl⟩
 rw [← hg] at K0 K1
 rw [← hg]
 clear hg r0 m0 r1 m1
 have C0 := K0.out; have C1 := K1.out; have he := He.out
 clear K0 K1 He
 refine (implHeadOk_any n a _).mono ?_
 rintro e w10 ⟨rfl, h1⟩
 replace C0 := C0.ext h1; replace C1 := C1.ext h1; replace he := he.next h1; clear h1
 obtain ⟨r0, m0⟩ := C0.rules
 obtain ⟨r1, m1⟩ := C1.rules
 go_wp2_with fail
 refine (implHeadOk_any n b _).mono ?_
 rintro e w11 ⟨rfl, h1⟩
 replace C0 := C0.ext h1; replace C1 := C1.ext h1; replace he := he.next h1; clear h1
 clear r0 m0 r1 m1
 obtain ⟨r0, m0⟩ := C0.rules
 obtain ⟨r1, m1⟩ := C1.rules
 go_wp2_with fail
 refine (parted_any a b _).mono ?_
 rintro e w12 ⟨rfl, h1⟩
 replace C0 := C0.ext h1; replace C1 := C1.ext h1; replace he := he.next h1; clear h1
 clear r0 m0 r1 m1
 obtain ⟨r0, m0⟩ := C0.rules
 obtain ⟨r1, m1⟩ := C1.rules
 go_wp2_with fail
 go_ret
 exact ⟨ret_bool E.out.symm, he⟩
end Go.Proofs.YthnpdoadmglipaaGreat
