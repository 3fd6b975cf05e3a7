/-
  SpecS; BrkS: No condition.
-/
import Derived.Test.YthnpdoadmglipaaGreatSpecG
import Derived.Test.YthnpdoadmglipaaGreatSealT
import Derived.Test.YthnpdoadmglipaaGreatSealB
import Derived.Test.YthnpdoadmglipaaGreatRecs
import Derived.Test.YthnpdoadmglipaaGreatHeadRead
import Derived.Test.YthnpdoadmglipaaGreatBrkNew
namespace Go.Proofs.YthnpdoadmglipaaGreat
set_option maxHeartbeats 4000000
set_option maxRecDepth 100000
set_option linter.unusedSimpArgs false
open Go.RowKit
set_option linter.unusedVariables false
theorem SealOk_any (wd : Int) (s : SealD) (A1 : Option Addr) (c1 : Nat) (A2 : Option Addr) (c2 : Nat) (w : World) (h1 : ReadsL w w.heap.size sone 1 A1 s.leaves.peaks) (h2 : ReadsL w w.heap.size sone 1 A2 s.taken.peaks) (l1 : s.leaves.peaks.length ≤ 1048576) (l2 : s.taken.peaks.length ≤ 1048576) :
 Calls Tryz.prog 132 #[.int .i64 wd, .agg (sealV s A1 c1 A2 c2).toArray] w fun e w' => e = .returned (.bool (sealOkB wd s)) ∧ Ext w w' := by
 have K0 := hU (Blk.new w 35 (sealV s A1 c1 A2 c2).toArray)
 have He := hU (Ext.new (Below.refl w.heap.size w) (.cells (sealV s A1 c1 A2 c2).toArray 35))
 have C1 := hU (fun (W : World) (hW : Ext w W) => RangeRoot_any wd s.leaves A1 c1 W (h1.ext hW) l1)
 have C2 := hU (fun (W : World) (hW : Ext w W) => RangeRoot_any wd s.taken A2 c2 W (h2.ext hW) l2)
 obtain ⟨fin, hfin⟩ : ∃ fin, fin = sealOkB wd s := ⟨_, rfl⟩
 rw [← hfin]
 have F := hU (show fin = (rangeOkB wd s.leaves && rangeOkB wd s.taken && headOk wd s.head && (s.head.size == s.leaves.size) && (s.head.root.toList == (rootR wd s.leaves).toList) && (s.head.taken == s.taken.size) && (s.head.takenRoot.toList == (rootR wd s.taken).toList)) from hfin)
 clear hfin h1 h2
 obtain ⟨z1, hz1⟩ : ∃ z1, z1 = rangeOkB wd s.leaves := ⟨_, rfl⟩
 obtain ⟨z2, hz2⟩ : ∃ z2, z2 = rangeOkB wd s.taken := ⟨_, rfl⟩
 obtain ⟨t1, ht1⟩ : ∃ t1, t1 = rootR wd s.leaves := ⟨_, rfl⟩
 obtain ⟨t2, ht2⟩ : ∃ t2, t2 = rootR wd s.taken := ⟨_, rfl⟩
 rw [← hz1, ← ht1] at C1 F
 rw [← hz2, ← ht2] at C2 F
 obtain ⟨x1, hx1⟩ : ∃ x1, x1 = (if z1 then t1 else ⟨#[]⟩) := ⟨_, rfl⟩
 obtain ⟨x2, hx2⟩ : ∃ x2, x2 = (if z2 then t2 else ⟨#[]⟩) := ⟨_, rfl⟩
 rw [← hx1] at C1
 rw [← hx2] at C2
 have X1 := hU hx1; have X2 := hU hx2
 clear hz1 hz2 ht1 ht2 hx1 hx2
 simp only [sealV] at K0 He ⊢
 obtain ⟨r0, m0⟩ := K0.out.rules
 go_enter Tryz.func132, Tryz.ntmps132
 go_wp2_with fail
 obtain ⟨g, hg⟩ : ∃ g, g = w.heap.size := ⟨_, rfl⟩
 rw [← hg] at K0
 rw [← hg]
 clear r0 m0 hg
 refine (C1.out _ He.out).mono ?_
 rintro e w1 ⟨m1, rfl, hx⟩
 have he := He.out.next hx
 have k0 := K0.out.ext hx
 clear hx K0 He
 obtain ⟨r0, m0⟩ := k0.rules
 go_wp2_with fail
 refine (C2.out _ he).mono ?_
 rintro e w2 ⟨m2, rfl, hx⟩
 replace he := he.next hx
 replace k0 := k0.ext hx
 clear hx r0 m0 C1 C2
 obtain ⟨r0, m0⟩ := k0.rules
 go_upto_region 3 with fail
 cases z1
 · have E := hU (show fin = false by rw [F.out]; rfl)
   go_wp2_with fail
   go_ret
   exact ⟨ret_bool E.out.symm, he⟩
 cases z2
 · have E := hU (show fin = false by rw [F.out]; simp)
   go_wp2_with fail
   go_ret
   exact ⟨ret_bool E.out.symm, he⟩
 have Y1 := hU (show x1 = t1 from X1.out); have Y2 := hU (show x2 = t2 from X2.out)
 rw [← Y1.out, ← Y2.out] at F
 clear X1 X2 Y1 Y2
 go_wp2_with fail
 refine (specHeadOk_any wd s.head _).mono ?_
 rintro e w3 ⟨rfl, hx⟩
 replace he := he.next hx
 replace k0 := k0.ext hx
 clear hx r0 m0
 obtain ⟨r0, m0⟩ := k0.rules
 obtain ⟨z3, hz3⟩ : ∃ z3, z3 = headOk wd s.head := ⟨_, rfl⟩
 rw [← hz3] at F
 rw [← hz3]
 clear hz3
 cases z3
 · have E := hU (show fin = false by rw [F.out]; simp)
   go_wp2_with fail
   go_ret
   exact ⟨ret_bool E.out.symm, he⟩
 by_cases p4 : s.head.size = s.leaves.size
 case neg =>
  have b4 : (s.head.size == s.leaves.size) = false := beq_false_of_ne p4
  have E := hU (show fin = false by rw [F.out, b4]; simp)
  go_wp2_with fail
  go_ret
  exact ⟨ret_bool E.out.symm, he⟩
 have b4 : (s.head.size == s.leaves.size) = true := beq_iff_eq.2 p4
 rw [b4] at F
 clear p4
 cases b5 : (s.head.root.toList == x1.toList)
 · have E := hU (show fin = false by rw [F.out, b5]; simp)
   go_wp2_with fail
   go_ret
   exact ⟨ret_bool E.out.symm, he⟩
 rw [b5] at F
 by_cases p6 : s.head.taken = s.taken.size
 case neg =>
  have b6 : (s.head.taken == s.taken.size) = false := beq_false_of_ne p6
  have E := hU (show fin = false by rw [F.out, b6]; simp)
  go_wp2_with fail
  go_ret
  exact ⟨ret_bool E.out.symm, he⟩
 have b6 : (s.head.taken == s.taken.size) = true := beq_iff_eq.2 p6
 rw [b6] at F
 clear p6
 have E := hU (show fin = (s.head.takenRoot.toList == x2.toList) by rw [F.out]; simp)
 go_wp2_with fail
 go_ret
 exact ⟨ret_bool E.out.symm, he⟩
set_option maxHeartbeats 2000000
theorem run_pre {P : Program} {t : TypeId} (A : Option Addr) (len c m size : Nat) (ht : P.underlying t = some (.slice (P.elem t))) (hs : ∀ W : World, (sizeOf (P.elem t)).run P W = .ok size W) (hm : m ≤ c) {x : Int} (hx : x = (m : Int)) (W : World) :
 (Instr.slice t (.slice A len c) none (some (.int .i64 x)) none).run P W = .ok (.slice A m c) W := by
 subst hx
 rw [run_slice_h (P := P) W t A len c ht .i64 (m : Int) (by omega) (by omega), hs]
 simp [Result.andThen, sliced]
 intro _
 cases A with
 | none => rfl
 | some a => simp [Addr.add]
theorem l12Last_any (cs : List Value) (A : Option Addr) (c : Nat) (l : List HeadD) (w : World) (hl13 : cs.length = 13) (hc3 : cs[3]? = some (.slice A l.length c)) (hr : ReadsL w w.heap.size HeadD.cells 5 A l) (h0 : 0 < l.length) (hl : l.length ≤ 1048576) :
 Calls Tryz.prog 89 #[.agg cs.toArray] w fun e w' => e = .returned (.agg #[.int .i64 (lastH l).number, .int .i64 (lastH l).size, .string (lastH l).root, .int .i64 (lastH l).taken, .string (lastH l).takenRoot]) ∧ Ext w w' := by
 obtain ⟨h, hh⟩ : ∃ h, h = lastH l := ⟨_, rfl⟩
 have hl1 := last_at h0
 rw [← hh] at hl1
 rw [← hh]
 obtain ⟨b, off, rfl, hb, hc⟩ := Reads.at_ hr (k := l.length - 1) (by omega)
 obtain ⟨k, hk⟩ : ∃ k, k = l.length - 1 := ⟨_, rfl⟩
 obtain ⟨L, hL⟩ : ∃ L, L = l.length := ⟨_, rfl⟩
 have c0 := hc 0 _ (flat_at _ 5 HeadD.cells_length l _ 0 h hl1 (by omega))
 have c1 := hc 1 _ (flat_at _ 5 HeadD.cells_length l _ 1 h hl1 (by omega))
 have c2 := hc 2 _ (flat_at _ 5 HeadD.cells_length l _ 2 h hl1 (by omega))
 have c3 := hc 3 _ (flat_at _ 5 HeadD.cells_length l _ 3 h hl1 (by omega))
 have c4 := hc 4 _ (flat_at _ 5 HeadD.cells_length l _ 4 h hl1 (by omega))
 rw [Nat.add_zero] at c0
 rw [← hk] at c0 c1 c2 c3 c4
 rw [← hL] at hc3 h0 hl hk
 have e1 : (L : Int) - 1 = (k : Int) := by omega
 have e2 : IntKind.i64.wrap (k : Int) = (k : Int) := IntWalk.i64_in _ (by omega)
 have hkL : k < L := by omega
 clear hc hl1 hk hL hr hh h0
 have B0 := Blk.new w 37 cs.toArray
 have E0 := Ext.new (Below.refl w.heap.size w) (.cells cs.toArray 37)
 obtain ⟨w0, hw0⟩ : ∃ w0, w0 = w.alloc (.cells cs.toArray 37) := ⟨_, rfl⟩
 rw [← hw0] at B0 E0
 have K0 := Blk.new w0 33 #[.int .i64 0, .int .i64 0, .string ⟨#[]⟩, .int .i64 0, .string ⟨#[]⟩]
 have E1 := E0.new (.cells #[.int .i64 0, .int .i64 0, .string ⟨#[]⟩, .int .i64 0, .string ⟨#[]⟩] 33)
 have B1 := B0.alloc (.cells #[.int .i64 0, .int .i64 0, .string ⟨#[]⟩, .int .i64 0, .string ⟨#[]⟩] 33)
 have hs0 : w0.heap.size = w.heap.size + 1 := by rw [hw0]; simp
 have x3 : (w0.alloc (.cells #[.int .i64 0, .int .i64 0, .string ⟨#[]⟩, .int .i64 0, .string ⟨#[]⟩] 33)).cell? ⟨w.heap.size, 3, none⟩ = some (.slice (some ⟨b, off, none⟩) L c) := (B1.cell 3).trans (by simpa using hc3)
 have x0 := (E1.cell (p := ⟨b, off + k * 5, none⟩) hb).trans c0
 have x1 := (E1.cell (p := ⟨b, off + k * 5 + 1, none⟩) hb).trans c1
 have x2 := (E1.cell (p := ⟨b, off + k * 5 + 2, none⟩) hb).trans c2
 have x4 := (E1.cell (p := ⟨b, off + k * 5 + 3, none⟩) hb).trans c3
 have x5 := (E1.cell (p := ⟨b, off + k * 5 + 4, none⟩) hb).trans c4
 rw [hs0] at K0
 subst hw0
 have KH := hU K0; have EH := hU E1
 clear c0 c1 c2 c3 c4 hc3 K0 B0 E0 B1 E1 hs0
 obtain ⟨w4, hw4, b2, e3⟩ : ∃ w4, w4 = ((w.alloc (.cells cs.toArray 37)).alloc (.cells #[.int .i64 0, .int .i64 0, .string ⟨#[]⟩, .int .i64 0, .string ⟨#[]⟩] 33)).setCells (w.heap.size + 1) 0 [.int .i64 h.number, .int .i64 h.size, .string h.root, .int .i64 h.taken, .string h.takenRoot] ∧ Blk w4 (w.heap.size + 1) 33 #[.int .i64 h.number, .int .i64 h.size, .string h.root, .int .i64 h.taken, .string h.takenRoot] ∧ Ext w w4 :=
  ⟨_, rfl, KH.out.put 0 [.int .i64 h.number, .int .i64 h.size, .string h.root, .int .i64 h.taken, .string h.takenRoot] #[.int .i64 h.number, .int .i64 h.size, .string h.root, .int .i64 h.taken, .string h.takenRoot] (by simp) rfl, ext_setCells (W := w) (g := w.heap.size + 1) (by omega) [.int .i64 h.number, .int .i64 h.size, .string h.root, .int .i64 h.taken, .string h.takenRoot] 0 _ EH.out⟩
 have HW := hU hw4; have B2 := hU b2; have E3 := hU e3
 have T := hU (KH.out.there 0 5 (by simp))
 clear hw4 b2 e3 KH EH
 go_enter Tryz.func89, Tryz.ntmps89
 go_wp2_with (first | (refine wpList_store_list rfl 33 _ _ rfl rfl (w.heap.size + 1) 0 [.int .i64 h.number, .int .i64 h.size, .string h.root, .int .i64 h.taken, .string h.takenRoot] rfl rfl T.out (by kernel_rfl) (by rfl) ?_; rw [← HW.out]))
 exact ret_row rfl rfl B2.out Tryz.underlying33 rfl (by kernel_rfl) rfl ⟨rfl, E3.out⟩
end Go.Proofs.YthnpdoadmglipaaGreat
