/-
  RightD; HeadBk; HeadHs: No condition.
-/
import Derived.Test.YthnpdoadmglipaaGreatRight
import Derived.Test.YthnpdoadmglipaaGreatFramesLaw
import Derived.Test.YthnpdoadmglipaaGreatSealP
import Derived.Test.YthnpdoadmglipaaGreatReopenR
import Derived.Test.YthnpdoadmglipaaGreatFollowsB
import Derived.Test.YthnpdoadmglipaaGreatClientNw
namespace Go.Proofs.YthnpdoadmglipaaGreat
set_option maxHeartbeats 4000000
set_option maxRecDepth 100000
set_option linter.unusedSimpArgs false
open Go.RowKit
set_option linter.unusedVariables false
theorem DrawRight_any (A : Option Addr) (c : Nat) (l : List Int) (w : World) (hlen : l.length ≤ maxLen) (hin : ∀ x ∈ l, ByteIn x) (hr : ReadsL w w.heap.size byteC 1 A l) :
 Calls Tryz.prog 7 #[.slice A l.length c] w fun e w' => ∃ (b : BrokerD) (M : List Value), brokerB b = true ∧ e = .returned (.agg M.toArray) ∧ BVal w.heap.size b M w' ∧ Ext w w' := by
 have Q0 := Blk.new w 37 #[.int .i64 0, .slice none 0 0, .slice none 0 0, .slice none 0 0, .int .i64 0, .slice none 0 0, .int .i64 0, .slice none 0 0, .int .i64 0, .int .i64 0, .string ⟨#[]⟩, .int .i64 0, .string ⟨#[]⟩]
 have he := Ext.new (Below.refl w.heap.size w) (.cells #[.int .i64 0, .slice none 0 0, .slice none 0 0, .slice none 0 0, .int .i64 0, .slice none 0 0, .int .i64 0, .slice none 0 0, .int .i64 0, .int .i64 0, .string ⟨#[]⟩, .int .i64 0, .string ⟨#[]⟩] 37)
 have NW := hU (l01New_any w.heap.size A c l _ he.size hlen hin (Reads.below hr he))
 obtain ⟨q0, hq0⟩ : ∃ q0, q0 = w.heap.size := ⟨_, rfl⟩
 obtain ⟨L, hL⟩ : ∃ L, L = l.length := ⟨_, rfl⟩
 rw [← hL] at NW hlen
 rw [← hL]
 unfold maxLen at hlen
 obtain ⟨k, hk⟩ : ∃ k : Nat, (4 : Int) + (L : Int) / 12 = (k : Int) := ⟨L / 12 + 4, by omega⟩
 clear hin hr hL
 go_enter Tryz.func7, Tryz.ntmps7
 go_upto_region 1 with fail
 rw [← hq0] at Q0
 rw [← hq0]
 obtain ⟨w1, hw1⟩ : ∃ w1, w1 = w.alloc (.cells #[.int .i64 0, .slice none 0 0, .slice none 0 0, .slice none 0 0, .int .i64 0, .slice none 0 0, .int .i64 0, .slice none 0 0, .int .i64 0, .int .i64 0, .string ⟨#[]⟩, .int .i64 0, .string ⟨#[]⟩] 37) := ⟨_, rfl⟩
 rw [← hw1] at Q0 he NW
 rw [← hw1]
 have hqw : w.heap.size ≤ q0 := by omega
 have hq1 : q0 < w1.heap.size := Q0.lt
 clear hw1 hq0
 go_wp2_with fail
 refine NW.out.mono ?_
 rintro e w2 ⟨g, hg, rfl, hc, h1⟩
 have hs1 := he.size
 replace Q0 := Q0.ext h1; replace he := he.next h1
 have CU := hU hc
 have hgl := hc.lt
 clear h1 NW hc
 go_upto_region 3 with fail
 clear hk
 have KK : ∀ (m : Nat), m ≤ 24 → ∀ (x : Int), 0 ≤ x → x < 32 → ∀ (W : World), CurAt W w.heap.size g A c l → Calls Tryz.prog 23 #[.pointer (some ⟨g, 0, none⟩), .int .i64 (1 + x), .int .i64 (m : Int)] W fun e w' => ∃ (b : BrokerD) (M : List Value), brokerB b = true ∧ e = .returned (.agg M.toArray) ∧ BVal W.heap.size b M w' ∧ CurAt w' w.heap.size g A c l ∧ ExtBut g W w' := fun m hm x h0 h1 W hc => l12Right_any w.heap.size g A c l (1 + x) m W (by simp [inR]; omega) hm hc
 have KK := hU KK
 by_cases c24 : 24 < k
 · have d24 : (24 : Int) < (k : Int) := by omega
   go_wp2_with fail
   refine (l01Below_any w.heap.size g A c l 32 _ (by decide) (by decide) CU.out).mono ?_
   rintro e w3 ⟨x, ⟨x0, x1⟩, rfl, hc, kk⟩
   have e5 : IntKind.i64.wrap (1 + x) = 1 + x := IntWalk.i64_in _ (by omega)
   have he3 := he.nextBut (by omega) kk
   have Q3 := Q0.extBut kk (by omega)
   have CU3 := hU hc
   clear hc kk Q0 CU he
   go_wp2_with fail
   refine (KK.out 24 (by omega) x x0 x1 _ CU3.out).mono ?_
   rintro e w4 ⟨b, M, hB, rfl, hv, hc, kk⟩
   have he4 := he3.nextBut (by omega) kk
   have Q4 := Q3.extBut kk (by omega)
   have hs3 := he3.size
   obtain ⟨w5, hw5, z1, z2, z3⟩ : ∃ w5, w5 = w4.setCells q0 0 M ∧ Blk w5 q0 37 M.toArray ∧ BVal w.heap.size b M w5 ∧ Ext w w5 := ⟨_, rfl, put_whole Q4 M (by rw [hv.len]; rfl), (hv.low hs3).putB Q4 M 0, ext_setCells (W := w) hqw M 0 _ he4⟩
   have T := hU (show w4.there q0 0 M.length by rw [hv.len]; exact Q4.there 0 13 (by simp))
   have HW := hU hw5; have Z1 := hU z1; have Z2 := hU z2; have Z3 := hU z3
   have M13 := hU hv.len; have M1 := hU hv.one; have HB := hU hB
   clear hw5 z1 z2 z3 hv hc kk he4 Q4 he3 Q3 CU3 hB KK
   go_wp2_with (refine wpList_store_list rfl 37 _ _ rfl rfl q0 0 M rfl rfl T.out (by rw [M13.out]; kernel_rfl) M1.out ?_; rw [← HW.out])
   exact ret_row rfl rfl Z1.out Tryz.underlying37 rfl (by rw [List.size_toArray, M13.out]; kernel_rfl) rfl ⟨b, M, HB.out, rfl, Z2.out, Z3.out⟩
 · have d24 : ¬ (24 : Int) < (k : Int) := by omega
   go_wp2_with fail
   refine (l01Below_any w.heap.size g A c l 32 _ (by decide) (by decide) CU.out).mono ?_
   rintro e w3 ⟨x, ⟨x0, x1⟩, rfl, hc, kk⟩
   have e5 : IntKind.i64.wrap (1 + x) = 1 + x := IntWalk.i64_in _ (by omega)
   have he3 := he.nextBut (by omega) kk
   have Q3 := Q0.extBut kk (by omega)
   have CU3 := hU hc
   clear hc kk Q0 CU he
   go_wp2_with fail
   refine (KK.out k (by omega) x x0 x1 _ CU3.out).mono ?_
   rintro e w4 ⟨b, M, hB, rfl, hv, hc, kk⟩
   have he4 := he3.nextBut (by omega) kk
   have Q4 := Q3.extBut kk (by omega)
   have hs3 := he3.size
   obtain ⟨w5, hw5, z1, z2, z3⟩ : ∃ w5, w5 = w4.setCells q0 0 M ∧ Blk w5 q0 37 M.toArray ∧ BVal w.heap.size b M w5 ∧ Ext w w5 := ⟨_, rfl, put_whole Q4 M (by rw [hv.len]; rfl), (hv.low hs3).putB Q4 M 0, ext_setCells (W := w) hqw M 0 _ he4⟩
   have T := hU (show w4.there q0 0 M.length by rw [hv.len]; exact Q4.there 0 13 (by simp))
   have HW := hU hw5; have Z1 := hU z1; have Z2 := hU z2; have Z3 := hU z3
   have M13 := hU hv.len; have M1 := hU hv.one; have HB := hU hB
   clear hw5 z1 z2 z3 hv hc kk he4 Q4 he3 Q3 CU3 hB KK
   go_wp2_with (refine wpList_store_list rfl 37 _ _ rfl rfl q0 0 M rfl rfl T.out (by rw [M13.out]; kernel_rfl) M1.out ?_; rw [← HW.out])
   exact ret_row rfl rfl Z1.out Tryz.underlying37 rfl (by rw [List.size_toArray, M13.out]; kernel_rfl) rfl ⟨b, M, HB.out, rfl, Z2.out, Z3.out⟩
theorem head_back {n : Int} {d : HeadD} (h : headOk n d = true) : hrImpl n (headText n d) = true ∧ hrD n (headText n d) = d := by
 obtain ⟨k, s, r, t, q⟩ := d
 have hk := h
 obtain ⟨n0, n1, k0, k1, s0, s1, r0, t0, t1, q0⟩ := headOk_bounds h
 obtain ⟨k, rfl⟩ := nat_of k0
 obtain ⟨s, rfl⟩ := nat_of s0
 obtain ⟨t, rfl⟩ := nat_of t0
 (try simp only at k1 s1 t1 r0 q0)
 have hw : inR n 1 32 = true := by simp [inR]; omega
 have R0 := Rest.start (headText n ⟨(k : Int), (s : Int), r, (t : Int), q⟩)
 have e : headText n ⟨(k : Int), (s : Int), r, (t : Int), q⟩ = lowB k 2 ++ (lowB s 2 ++ (r ++ (lowB t 2 ++ (q ++ ⟨#[]⟩)))) := by
  rw [headText, hk, if_pos rfl, headT, show ∀ X : ByteArray, X ++ (⟨#[]⟩ : ByteArray) = X from fun X => ByteArray.append_empty]
  simp only [ByteArray.append_assoc, Int.toNat_natCast]
 generalize headText n ⟨(k : Int), (s : Int), r, (t : Int), q⟩ = T at *
 rw [e] at R0
 obtain ⟨p0, R1⟩ := R0.take (n := 2) rfl
 rw [← e] at p0 R1
 obtain ⟨p1, R2⟩ := R1.take (n := 2) rfl
 obtain ⟨p2, R3⟩ := R2.take (n := n.toNat) (by omega)
 obtain ⟨p3, R4⟩ := R3.take (n := 2) rfl
 obtain ⟨p4, R5⟩ := R4.take (n := n.toNat) (by omega)
 have hD : hrD n T = ⟨(k : Int), (s : Int), r, (t : Int), q⟩ := by
  show (⟨(beNum (rdTake T rh0 2) : Int), (beNum (rdTake T (rh1 T rh0) 2) : Int), rdTake T (rh2 T rh0) n.toNat, (beNum (rdTake T (rh3 T rh0 n.toNat) 2) : Int), rdTake T (rh4 T rh0 n.toNat) n.toNat⟩ : HeadD) = _
  rw [show rdTake T rh0 2 = _ from p0, show rdTake T (rh1 T rh0) 2 = _ from p1, show rdTake T (rh2 T rh0) n.toNat = _ from p2, show rdTake T (rh3 T rh0 n.toNat) 2 = _ from p3, show rdTake T (rh4 T rh0 n.toNat) n.toNat = _ from p4, beNum_low2 (by omega), beNum_low2 (by omega), beNum_low2 (by omega)]
 refine ⟨?_, hD⟩
 rw [hrImpl, hD, hk, hw, show rdDone T (rh5 T rh0 n.toNat) = true from R5.done]
 rfl
set_option maxHeartbeats 2000000
theorem implHeadHash_good (n : Int) (d : HeadD) (w : World) (hk : headOk n d = true) : Calls Tryz.prog 11 #[.int .i64 n, .agg #[.int .i64 d.number, .int .i64 d.size, .string d.root, .int .i64 d.taken, .string d.takenRoot]] w fun e w' => e = .returned (.tuple #[.string (digest n 3 (headText n d)), .bool true]) ∧ Ext w w' := by
 have hs := (headText_fits hk).2
 have hb := headOk_bounds hk
 have hw : inR n 1 32 = true := by simp [inR]; omega
 have E : digestOk n 3 (headText n d) = true := by rw [digestOk, hw]; simp [inR]; omega
 have hm : (headText n d).size ≤ maxLen := by unfold maxLen; omega
 have HT := hU (fun W => implHeadText_any n d W)
 rw [hk] at HT
 obtain ⟨T, hT⟩ : ∃ T, T = headText n d := ⟨_, rfl⟩
 rw [← hT] at HT E hm
 rw [← hT]
 clear hT hs hb hk
 have He := hU (Ext.new (Below.refl w.heap.size w) (.cells #[.int .i64 d.number, .int .i64 d.size, .string d.root, .int .i64 d.taken, .string d.takenRoot] 33))
 go_enter Tryz.func11, Tryz.ntmps11
 go_wp2_with fail
 refine (HT.out _).mono ?_
 rintro e w1 ⟨rfl, h1⟩
 go_wp2_with fail
 refine (Digest_any n 3 T _ hm).mono ?_
 rintro e w2 ⟨rfl, h2⟩
 rw [E]
 go_wp2_with fail
 go_ret2
 exact ⟨rfl, by first | exact h1.next h2 | exact Ext.next (Ext.new (Below.refl _ _) _) (h1.next h2)⟩
end Go.Proofs.YthnpdoadmglipaaGreat
