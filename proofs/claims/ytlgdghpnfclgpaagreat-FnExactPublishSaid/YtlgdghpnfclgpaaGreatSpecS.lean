/-
  SameC; SpecS: No condition.
-/
import Derived.Test.YtlgdghpnfclgpaaGreatMapRec
import Derived.Test.YtlgdghpnfclgpaaGreatFollowsB
import Derived.Test.YtlgdghpnfclgpaaGreatSpecG
namespace Go.Proofs.YtlgdghpnfclgpaaGreat
set_option maxHeartbeats 2000000
set_option maxRecDepth 100000
set_option linter.unusedSimpArgs false
open Go.RowKit
set_option linter.unusedVariables false
theorem sameRange_any (A A' : Option Addr) (c c' : Nat) (a b : RangeD) (w : World) (ha : ReadsL w w.heap.size sone 1 A a.peaks) (hb : ReadsL w w.heap.size sone 1 A' b.peaks) (hla : a.peaks.length ≤ 1048576) (hlb : b.peaks.length ≤ 1048576) :
 Calls Tryz.prog 175 #[.agg #[.int .i64 a.size, .slice A a.peaks.length c], .agg #[.int .i64 b.size, .slice A' b.peaks.length c']] w fun e w' => e = .returned (.bool (sameRangeB a b)) ∧ Ext w w' := by
 obtain ⟨B0, B1, he⟩ := two_blks w #[.int .i64 a.size, .slice A a.peaks.length c] #[.int .i64 b.size, .slice A' b.peaks.length c'] 54 54
 have He := hU he
 obtain ⟨r0, m0⟩ := B0.rules
 obtain ⟨r1, m1⟩ := B1.rules
 have CC := hU (slicesEqual_any A A' c c' a.peaks b.peaks _ (ha.ext he) (hb.ext he) hla hlb)
 clear B0 B1 he
 obtain ⟨fin, hfin⟩ : ∃ fin, fin = sameRangeB a b := ⟨_, rfl⟩
 rw [← hfin]
 by_cases p1 : a.size = b.size
 · have E := hU (show fin = peaksB a.peaks b.peaks by rw [hfin, sameRangeB, p1]; simp)
   have x1 : (a.size == b.size) = true := beq_iff_eq.2 p1
   clear hfin p1
   obtain ⟨La, hLa⟩ : ∃ La, La = a.peaks.length := ⟨_, rfl⟩
   obtain ⟨Lb, hLb⟩ : ∃ Lb, Lb = b.peaks.length := ⟨_, rfl⟩
   rw [← hLa] at r0 m0 r1 m1 CC He
   rw [← hLb] at r0 m0 r1 m1 CC He
   rw [← hLa, ← hLb]
   clear hLa hLb
   go_enter Tryz.func175, Tryz.ntmps175
   go_wp2_with fail
   refine CC.out.mono ?_
   rintro e w1 ⟨rfl, h1⟩
   rw [← E.out]
   have he := He.out.next h1
   clear h1
   go_wp2_with fail
   go_ret
   exact ⟨rfl, he⟩
 · have E := hU (show fin = false by rw [hfin, sameRangeB, beq_false_of_ne p1]; rfl)
   have x1 : (a.size == b.size) = false := beq_false_of_ne p1
   clear hfin
   go_enter Tryz.func175, Tryz.ntmps175
   go_wp2_with fail
   go_ret
   exact ⟨ret_bool E.out.symm, He.out⟩
def sealV (s : SealD) (A1 : Option Addr) (c1 : Nat) (A2 : Option Addr) (c2 : Nat) : List Value := [.int .i64 s.leaves.size, .slice A1 s.leaves.peaks.length c1, .int .i64 s.taken.size, .slice A2 s.taken.peaks.length c2, .int .i64 s.head.number, .int .i64 s.head.size, .string s.head.root, .int .i64 s.head.taken, .string s.head.takenRoot]
theorem sameSeal_any (A1 A2 A3 A4 : Option Addr) (c1 c2 c3 c4 : Nat) (s t : SealD) (w : World) (h1 : ReadsL w w.heap.size sone 1 A1 s.leaves.peaks) (h2 : ReadsL w w.heap.size sone 1 A2 s.taken.peaks) (h3 : ReadsL w w.heap.size sone 1 A3 t.leaves.peaks) (h4 : ReadsL w w.heap.size sone 1 A4 t.taken.peaks)
 (l1 : s.leaves.peaks.length ≤ 1048576) (l2 : s.taken.peaks.length ≤ 1048576) (l3 : t.leaves.peaks.length ≤ 1048576) (l4 : t.taken.peaks.length ≤ 1048576) :
 Calls Tryz.prog 109 #[.agg (sealV s A1 c1 A2 c2).toArray, .agg (sealV t A3 c3 A4 c4).toArray] w fun e w' => e = .returned (.bool (sameSealB s t)) ∧ Ext w w' := by
 obtain ⟨B0, B1, he⟩ := two_blks w (sealV s A1 c1 A2 c2).toArray (sealV t A3 c3 A4 c4).toArray 57 57
 have C1 := hU (sameRange_any A1 A3 c1 c3 s.leaves t.leaves _ (h1.ext he) (h3.ext he) l1 l3)
 have C2 := hU (fun (W : World) (hW : Ext w W) => sameRange_any A2 A4 c2 c4 s.taken t.taken W (h2.ext hW) (h4.ext hW) l2 l4)
 have K0 := hU B0; have K1 := hU B1; have He := hU he
 have HQ := HeadD.run_eql s.head t.head
 obtain ⟨r0, m0⟩ := B0.rules
 obtain ⟨r1, m1⟩ := B1.rules
 obtain ⟨fin, hfin⟩ : ∃ fin, fin = sameSealB s t := ⟨_, rfl⟩
 rw [← hfin]
 have F := hU (show fin = (sameRangeB s.leaves t.leaves && sameRangeB s.taken t.taken && s.head.eqb t.head) from hfin)
 clear B0 B1 he hfin h1 h2 h3 h4
 simp only [sealV] at C1 K0 K1 He r0 r1 m0 m1 ⊢
 cases p1 : sameRangeB s.leaves t.leaves
 · have E := hU (show fin = false by rw [F.out, p1]; rfl)
   rw [p1] at C1
   go_enter Tryz.func109, Tryz.ntmps109
   go_wp2_with fail
   refine C1.out.mono ?_
   rintro e w1 ⟨rfl, hx⟩
   have he := He.out.next hx
   clear hx
   go_wp2_with fail
   go_ret
   exact ⟨ret_bool E.out.symm, he⟩
 rw [p1] at C1
 cases p2 : sameRangeB s.taken t.taken
 · have E := hU (show fin = false by rw [F.out, p1, p2]; rfl)
   rw [p2] at C2
   go_enter Tryz.func109, Tryz.ntmps109
   go_wp2_with fail
   obtain ⟨g, hg⟩ : ∃ g, g = w.heap.size := ⟨_, rfl⟩
   rw [← hg] at K0 K1
   rw [← hg]
   clear r0 m0 r1 m1 hg
   refine C1.out.mono ?_
   rintro e w1 ⟨rfl, hx⟩
   have he := He.out.next hx
   have k0 := K0.out.ext hx; have k1 := K1.out.ext hx
   clear hx K0 K1
   obtain ⟨r0, m0⟩ := k0.rules
   obtain ⟨r1, m1⟩ := k1.rules
   go_wp2_with fail
   refine (C2.out _ he).mono ?_
   rintro e w2 ⟨rfl, hx⟩
   replace he := he.next hx
   clear hx r0 m0 r1 m1 k0 k1
   go_wp2_with fail
   go_ret
   exact ⟨ret_bool E.out.symm, he⟩
 rw [p2] at C2
 have E := hU (show fin = s.head.eqb t.head by rw [F.out, p1, p2]; rfl)
 go_enter Tryz.func109, Tryz.ntmps109
 go_wp2_with fail
 obtain ⟨g, hg⟩ : ∃ g, g = w.heap.size := ⟨_, rfl⟩
 rw [← hg] at K0 K1
 rw [← hg]
 clear r0 m0 r1 m1 hg
 refine C1.out.mono ?_
 rintro e w1 ⟨rfl, hx⟩
 have he := He.out.next hx
 have k0 := K0.out.ext hx; have k1 := K1.out.ext hx
 clear hx K0 K1
 obtain ⟨r0, m0⟩ := k0.rules
 obtain ⟨r1, m1⟩ := k1.rules
 go_wp2_with fail
 refine (C2.out _ he).mono ?_
 rintro e w2 ⟨rfl, hx⟩
 replace he := he.next hx
 clear r0 m0 r1 m1
 replace k0 := k0.ext hx; replace k1 := k1.ext hx
 clear hx
 obtain ⟨r0, m0⟩ := k0.rules
 obtain ⟨r1, m1⟩ := k1.rules
 go_wp2_with fail
 go_ret
 exact ⟨ret_bool E.out.symm, he⟩
theorem l12SameRange_any (A A' : Option Addr) (c c' : Nat) (x y : RangeD) (w : World) (ha : ReadsL w w.heap.size sone 1 A x.peaks) (hb : ReadsL w w.heap.size sone 1 A' y.peaks) (hla : x.peaks.length ≤ 1048576) (hlb : y.peaks.length ≤ 1048576) :
 Calls Tryz.prog 103 #[.agg #[.int .i64 x.size, .slice A x.peaks.length c], .agg #[.int .i64 y.size, .slice A' y.peaks.length c']] w fun e w' => e = .returned (.bool (sameRangeB x y)) ∧ Ext w w' := by
 obtain ⟨B0, B1, he⟩ := two_blks w #[.int .i64 x.size, .slice A x.peaks.length c] #[.int .i64 y.size, .slice A' y.peaks.length c'] 54 54
 have K0 := hU B0; have K1 := hU B1; have He := hU he
 obtain ⟨r0, m0⟩ := B0.rules
 obtain ⟨r1, m1⟩ := B1.rules
 clear B0 B1 he
 obtain ⟨fin, hfin⟩ : ∃ fin, fin = sameRangeB x y := ⟨_, rfl⟩
 rw [← hfin]
 by_cases p1 : x.size = y.size
 case neg =>
  have E := hU (show fin = false by rw [hfin, sameRangeB, beq_false_of_ne p1]; rfl)
  clear hfin
  go_enter Tryz.func103, Tryz.ntmps103
  go_wp2_with fail
  go_ret
  exact ⟨ret_bool E.out.symm, He.out⟩
 have F := hU (show fin = peaksB x.peaks y.peaks by rw [hfin, sameRangeB, p1]; simp)
 have n0 : (x.size != y.size) = false := by simp [p1]
 by_cases hl : x.peaks.length = y.peaks.length
 case neg =>
  have E := hU (show fin = false by rw [F.out]; exact peaksB_len hl)
  have hl2 : ¬ ((x.peaks.length : Int) = (y.peaks.length : Int)) := by omega
  clear hfin p1
  go_enter Tryz.func103, Tryz.ntmps103
  go_wp2_with fail
  go_ret
  exact ⟨ret_bool E.out.symm, He.out⟩
 obtain ⟨a, haa⟩ : ∃ a, a = x.peaks := ⟨_, rfl⟩
 obtain ⟨b, hbb⟩ : ∃ b, b = y.peaks := ⟨_, rfl⟩
 rw [← haa] at ha hla hl F
 rw [← hbb] at hb hlb hl F
 obtain ⟨n, hn⟩ : ∃ n, n = a.length := ⟨_, rfl⟩
 have hn2 : b.length = n := by omega
 rw [← haa, ← hn] at K0 K1 He r0 m0 r1 m1
 rw [← hbb, hn2] at K0 K1 He r0 m0 r1 m1
 rw [← haa, ← hbb, ← hn, hn2]
 rw [← hn] at hla
 obtain ⟨z, hz⟩ : ∃ z, z = x.size := ⟨_, rfl⟩
 rw [← p1, ← hz] at K0 K1 He r0 m0 r1 m1 
 rw [← p1, ← hz]
 have HN := hU hn; have HN2 := hU hn2
 clear hfin hl hn hn2 hlb p1 n0 haa hbb hz
 go_enter Tryz.func103, Tryz.ntmps103
 go_wp2_with fail
 obtain ⟨g, hg⟩ : ∃ g, g = w.heap.size := ⟨_, rfl⟩
 rw [← hg] at K0 K1
 rw [← hg]
 clear r0 m0 r1 m1 hg
 go_loopw [5] (fun i wr => ∃ k : Nat, k ≤ n ∧ i = .int .i64 k ∧ (∀ j x y, j < k → a[j]? = some x → b[j]? = some y → (x.toList == y.toList) = true) ∧ Blk wr g 54 #[.int .i64 z, .slice A n c] ∧ Blk wr (g + 1) 54 #[.int .i64 z, .slice A' n c'] ∧ Ext w wr) (fun i _ => n - (intOf i).toNat)
 case atStart => exact ⟨0, Nat.zero_le _, rfl, fun j _ _ h => absurd h (Nat.not_lt_zero j), K0.out, K1.out, He.out⟩
 case round =>
  clear K0 K1 He
  obtain ⟨k, hk, rfl, hi, k0, k1, he⟩ := hrel
  have Hi := hU hi
  obtain ⟨r0, m0⟩ := k0.rules
  obtain ⟨r1, m1⟩ := k1.rules
  have K0 := hU k0; have K1 := hU k1
  clear hi k0 k1
  by_cases hlt : k < n
  case neg =>
   have E := hU (show fin = true by rw [F.out]; exact peaksB_all (by rw [← HN.out, HN2.out]) (fun j x y hj => Hi.out j x y (by have := HN.out; omega)))
   go_wp2_with fail
   go_ret
   exact ⟨ret_bool E.out.symm, he⟩
  obtain ⟨x, hx⟩ : ∃ x, a[k]? = some x := ⟨a[k]'(by have := HN.out; omega), List.getElem?_eq_getElem (by have := HN.out; omega)⟩
  obtain ⟨y, hy⟩ : ∃ y, b[k]? = some y := ⟨b[k]'(by have := HN2.out; omega), List.getElem?_eq_getElem (by have := HN2.out; omega)⟩
  obtain ⟨b1, o1, rfl, hb1, c1⟩ := texts_cell (ha.ext he) hx
  obtain ⟨b2, o2, rfl, hb2, c2⟩ := texts_cell (hb.ext he) hy
  have X := hU hx; have Y := hU hy
  clear hx hy ha hb
  cases q : (x.toList == y.toList)
  · have E := hU (show fin = false by rw [F.out]; exact peaksB_at X.out Y.out q)
    have q2 := nes_of_beq q
    go_wp2_with fail
    go_quiet (fail)
    go_wp2_with fail
    go_ret
    exact ⟨ret_bool E.out.symm, he.drewN _⟩
  · have E := hU (show ∀ j x y, j < k + 1 → a[j]? = some x → b[j]? = some y → (x.toList == y.toList) = true from fun j x' y' hj hx' hy' => by
     rcases Nat.lt_or_ge j k with h | h
     · exact Hi.out j x' y' h hx' hy'
     · obtain rfl : j = k := by omega
       have e1 := X.out.symm.trans hx'
       have e2 := Y.out.symm.trans hy'
       cases e1; cases e2; exact q)
    have q2 := nes_of_beq q
    go_wp2_with fail
    go_quiet (fail)
    go_wp2_with fail
    go_roundw
    case rel => exact ⟨k + 1, by omega, by go_num, E.out, K0.out.drewN _, K1.out.drewN _, he.drewN _⟩
    case measure => simp [intOf]; omega
set_option maxHeartbeats 4000000
theorem range0_ok {wd : Int} (hwd : inR wd 1 32 = true) : rangeOkB wd ⟨0, []⟩ = true := by
 have := inR_true hwd
 simp [rangeOkB, inR, hashes, pc_zero]
 omega
theorem RangeOf_good (wd : Int) (hwd : inR wd 1 32 = true) (A' : Option Addr) (c' : Nat) (l : List ByteArray) (w : World) (hrl : ReadsL w w.heap.size sone 1 A' l) (hls : ∀ x ∈ l, WdT wd x) (hfit : l.length ≤ 512) :
 Calls Tryz.prog 71 #[.int .i64 wd, .slice A' l.length c'] w fun e w' => ∃ v, e = .returned (.tuple #[.agg #[.int .i64 (l.length : Int), v], .bool true]) ∧ RowT w.heap.size w' v (peaksOf (ndB wd) l).reverse ∧ Ext w w' := by
 have K0 := hU (Blk.new w 54 #[.int .i64 0, .slice none 0 0])
 have He := hU (Ext.new (Below.refl w.heap.size w) (.cells #[.int .i64 0, .slice none 0 0] 54))
 have C := hU (GrowAll_good wd hwd ⟨0, []⟩ none 0 A' c' l _ Reads.nil_ (hrl.ext He.out) (range0_ok hwd) hls (by show (l.length : Int) ≤ 512 - 0; omega))
 have hPK : growL (ndB wd) 0 [] l = peaksOf (ndB wd) l := rfl
 simp only [List.length_nil, List.reverse_nil, Int.toNat_zero, hPK] at C
 clear hPK
 go_enter Tryz.func71, Tryz.ntmps71
 go_wp2_with fail
 obtain ⟨g, hg⟩ : ∃ g, g = w.heap.size := ⟨_, rfl⟩
 have K0 := hU (show Blk _ g _ _ by rw [hg]; exact K0.out)
 rw [← hg]
 have Hg := hU hg
 clear hg
 refine C.out.mono ?_
 rintro e w1 ⟨m, v, rfl, hrow, h1⟩
 rw [Int.zero_add]
 have hE1 := He.out.next h1
 have k0 := K0.out.ext h1
 have R1 := hU (show RowT w.heap.size w1 v (peaksOf (ndB wd) l).reverse from ownsRow_base hrow (by simp))
 have HE := hU hE1; have KB := hU k0
 clear h1 k0 hE1 hrow K0 He C
 obtain ⟨Lp, hLp⟩ : ∃ Lp, Lp = (peaksOf (ndB wd) l).reverse := ⟨_, rfl⟩
 rw [← hLp] at R1
 obtain ⟨Av, cv, hv, _⟩ := ownsRow_form R1.out
 subst hv
 have HLp := hU hLp
 clear hLp
 have K2 := hU (KB.out.alloc (.cells #[.int .i64 (l.length : Int), .slice Av Lp.length cv] 54))
 have E2 := hU (HE.out.new (.cells #[.int .i64 (l.length : Int), .slice Av Lp.length cv] 54))
 have R2 := hU (R1.out.ext (Ext.new (Below.refl w1.heap.size w1) (.cells #[.int .i64 (l.length : Int), .slice Av Lp.length cv] 54)))
 have D2 := hU (Blk.new w1 54 #[.int .i64 (l.length : Int), .slice Av Lp.length cv])
 have hgl := KB.out.lt
 clear R1 HE KB
 go_upto_region 2 with fail
 obtain ⟨g2, hg2⟩ : ∃ g2, g2 = w1.heap.size := ⟨_, rfl⟩
 have D2 := hU (show Blk _ g2 _ _ by rw [hg2]; exact D2.out)
 rw [← hg2]
 clear hg2 hgl
 generalize w1.alloc (.cells #[.int .i64 (l.length : Int), .slice Av Lp.length cv] 54) = w2 at *
 obtain ⟨d0, df⟩ := D2.out.rules
 obtain ⟨k0, kf⟩ := K2.out.rules
 have KB := hU (K2.out.put 0 [.int .i64 (l.length : Int), .slice Av Lp.length cv] #[.int .i64 (l.length : Int), .slice Av Lp.length cv] (by simp) rfl)
 have hk5 : Frm (fun b => b = g) w2 (w2.setCells g 0 [.int .i64 (l.length : Int), .slice Av Lp.length cv]) := Frm.setCells (X := fun b => b = g) (Frm.refl _ w2) (g := g) (fun _ => rfl) _ _
 have RF : Hid (RowT w.heap.size (w2.setCells g 0 [.int .i64 (l.length : Int), .slice Av Lp.length cv]) (.slice Av Lp.length cv) (peaksOf (ndB wd) l).reverse) := hU (by rw [← HLp.out]; exact hk5.own R2.out (fun b hb => RowT.apart R2.out K2.out (by decide) b hb))
 have HX := hU (ext_setCells (W := w) (g := g) (by have := Hg.out; omega) [.int .i64 (l.length : Int), .slice Av Lp.length cv] 0 w2 E2.out)
 clear hk5 R2 E2 D2 K2
 go_wp2_with fail
 exact ret_row_tmp rfl rfl KB.out Tryz.underlying54 rfl (by kernel_rfl) rfl ⟨_, rfl, RF.out, HX.out⟩
theorem SealOk_any (wd : Int) (s : SealD) (A1 : Option Addr) (c1 : Nat) (A2 : Option Addr) (c2 : Nat) (w : World) (h1 : ReadsL w w.heap.size sone 1 A1 s.leaves.peaks) (h2 : ReadsL w w.heap.size sone 1 A2 s.taken.peaks) (l1 : s.leaves.peaks.length ≤ 1048576) (l2 : s.taken.peaks.length ≤ 1048576) :
 Calls Tryz.prog 102 #[.int .i64 wd, .agg (sealV s A1 c1 A2 c2).toArray] w fun e w' => e = .returned (.bool (sealOkB wd s)) ∧ Ext w w' := by
 have K0 := hU (Blk.new w 57 (sealV s A1 c1 A2 c2).toArray)
 have He := hU (Ext.new (Below.refl w.heap.size w) (.cells (sealV s A1 c1 A2 c2).toArray 57))
 have C1 := hU (fun (W : World) (hW : Ext w W) => RangeRoot_any wd s.leaves A1 c1 W (h1.ext hW) l1)
 have C2 := hU (fun (W : World) (hW : Ext w W) => RangeRoot_any wd s.taken A2 c2 W (h2.ext hW) l2)
 obtain ⟨fin, hfin⟩ : ∃ fin, fin = sealOkB wd s := ⟨_, rfl⟩
 rw [← hfin]
 have F := hU (show fin = (rangeOkB wd s.leaves && rangeOkB wd s.taken && headOk wd s.head && (s.head.size == s.leaves.size) && (s.head.root.toList == (rootR wd s.leaves).toList) && (s.head.taken == s.taken.size) && (s.head.takenRoot.toList == (rootR wd s.taken).toList)) from hfin)
 clear hfin h1 h2
 obtain ⟨z1, hz1⟩ : ∃ z1, z1 = rangeOkB wd s.leaves := ⟨_, rfl⟩
 obtain ⟨z2, hz2⟩ : ∃ z2, z2 = rangeOkB wd s.taken := ⟨_, rfl⟩
 obtain ⟨t1, ht1⟩ : ∃ t1, t1 = rootR wd s.leaves := ⟨_, rfl⟩
 obtain ⟨t2, ht2⟩ : ∃ t2, t2 = rootR wd s.taken := ⟨_, rfl⟩
 rw [← hz1, ← ht1] at C1 F
 rw [← hz2, ← ht2] at C2 F
 obtain ⟨x1, hx1⟩ : ∃ x1, x1 = (if z1 then t1 else ⟨#[]⟩) := ⟨_, rfl⟩
 obtain ⟨x2, hx2⟩ : ∃ x2, x2 = (if z2 then t2 else ⟨#[]⟩) := ⟨_, rfl⟩
 rw [← hx1] at C1
 rw [← hx2] at C2
 have X1 := hU hx1; have X2 := hU hx2
 clear hz1 hz2 ht1 ht2 hx1 hx2
 simp only [sealV] at K0 He ⊢
 obtain ⟨r0, m0⟩ := K0.out.rules
 go_enter Tryz.func102, Tryz.ntmps102
 go_wp2_with fail
 obtain ⟨g, hg⟩ : ∃ g, g = w.heap.size := ⟨_, rfl⟩
 rw [← hg] at K0
 rw [← hg]
 clear r0 m0 hg
 refine (C1.out _ He.out).mono ?_
 rintro e w1 ⟨m1, rfl, hx⟩
 have he := He.out.next hx
 have k0 := K0.out.ext hx
 clear hx K0 He
 obtain ⟨r0, m0⟩ := k0.rules
 go_wp2_with fail
 refine (C2.out _ he).mono ?_
 rintro e w2 ⟨m2, rfl, hx⟩
 replace he := he.next hx
 replace k0 := k0.ext hx
 clear hx r0 m0 C1 C2
 obtain ⟨r0, m0⟩ := k0.rules
 go_upto_region 3 with fail
 cases z1
 · have E := hU (show fin = false by rw [F.out]; rfl)
   go_wp2_with fail
   go_ret
   exact ⟨ret_bool E.out.symm, he⟩
 cases z2
 · have E := hU (show fin = false by rw [F.out]; simp)
   go_wp2_with fail
   go_ret
   exact ⟨ret_bool E.out.symm, he⟩
 have Y1 := hU (show x1 = t1 from X1.out); have Y2 := hU (show x2 = t2 from X2.out)
 rw [← Y1.out, ← Y2.out] at F
 clear X1 X2 Y1 Y2
 go_wp2_with fail
 refine (specHeadOk_any wd s.head _).mono ?_
 rintro e w3 ⟨rfl, hx⟩
 replace he := he.next hx
 replace k0 := k0.ext hx
 clear hx r0 m0
 obtain ⟨r0, m0⟩ := k0.rules
 obtain ⟨z3, hz3⟩ : ∃ z3, z3 = headOk wd s.head := ⟨_, rfl⟩
 rw [← hz3] at F
 rw [← hz3]
 clear hz3
 cases z3
 · have E := hU (show fin = false by rw [F.out]; simp)
   go_wp2_with fail
   go_ret
   exact ⟨ret_bool E.out.symm, he⟩
 by_cases p4 : s.head.size = s.leaves.size
 case neg =>
  have b4 : (s.head.size == s.leaves.size) = false := beq_false_of_ne p4
  have E := hU (show fin = false by rw [F.out, b4]; simp)
  go_wp2_with fail
  go_ret
  exact ⟨ret_bool E.out.symm, he⟩
 have b4 : (s.head.size == s.leaves.size) = true := beq_iff_eq.2 p4
 rw [b4] at F
 clear p4
 cases b5 : (s.head.root.toList == x1.toList)
 · have E := hU (show fin = false by rw [F.out, b5]; simp)
   go_wp2_with fail
   go_ret
   exact ⟨ret_bool E.out.symm, he⟩
 rw [b5] at F
 by_cases p6 : s.head.taken = s.taken.size
 case neg =>
  have b6 : (s.head.taken == s.taken.size) = false := beq_false_of_ne p6
  have E := hU (show fin = false by rw [F.out, b6]; simp)
  go_wp2_with fail
  go_ret
  exact ⟨ret_bool E.out.symm, he⟩
 have b6 : (s.head.taken == s.taken.size) = true := beq_iff_eq.2 p6
 rw [b6] at F
 clear p6
 have E := hU (show fin = (s.head.takenRoot.toList == x2.toList) by rw [F.out]; simp)
 go_wp2_with fail
 go_ret
 exact ⟨ret_bool E.out.symm, he⟩
end Go.Proofs.YtlgdghpnfclgpaaGreat
