/-
  SameC; BrkI; FetchT; Root6: No condition.
-/
import Derived.Test.YtlgdghpnfclgpaaGreatCopyC
import Derived.Test.YtlgdghpnfclgpaaGreatFollowsB
import Derived.Test.YtlgdghpnfclgpaaGreatPartsB
import Derived.Test.YtlgdghpnfclgpaaGreatLeafI
import Derived.Test.YtlgdghpnfclgpaaGreatFetchI
import Derived.Test.YtlgdghpnfclgpaaGreatRootI
import Derived.Test.YtlgdghpnfclgpaaGreatBunch
namespace Go.Proofs.YtlgdghpnfclgpaaGreat
set_option maxHeartbeats 2000000
set_option maxRecDepth 100000
set_option linter.unusedSimpArgs false
open Go.RowKit
set_option linter.unusedVariables false
theorem sameRange_any (A A' : Option Addr) (c c' : Nat) (a b : RangeD) (w : World) (ha : ReadsL w w.heap.size sone 1 A a.peaks) (hb : ReadsL w w.heap.size sone 1 A' b.peaks) (hla : a.peaks.length ≤ 1048576) (hlb : b.peaks.length ≤ 1048576) :
 Calls Tryz.prog 175 #[.agg #[.int .i64 a.size, .slice A a.peaks.length c], .agg #[.int .i64 b.size, .slice A' b.peaks.length c']] w fun e w' => e = .returned (.bool (sameRangeB a b)) ∧ Ext w w' := by
 obtain ⟨B0, B1, he⟩ := two_blks w #[.int .i64 a.size, .slice A a.peaks.length c] #[.int .i64 b.size, .slice A' b.peaks.length c'] 54 54
 have He := hU he
 obtain ⟨r0, m0⟩ := B0.rules
 obtain ⟨r1, m1⟩ := B1.rules
 have CC := hU (slicesEqual_any A A' c c' a.peaks b.peaks _ (ha.ext he) (hb.ext he) hla hlb)
 clear B0 B1 he
 obtain ⟨fin, hfin⟩ : ∃ fin, fin = sameRangeB a b := ⟨_, rfl⟩
 rw [← hfin]
 by_cases p1 : a.size = b.size
 · have E := hU (show fin = peaksB a.peaks b.peaks by rw [hfin, sameRangeB, p1]; simp)
   have x1 : (a.size == b.size) = true := beq_iff_eq.2 p1
   clear hfin p1
   obtain ⟨La, hLa⟩ : ∃ La, La = a.peaks.length := ⟨_, rfl⟩
   obtain ⟨Lb, hLb⟩ : ∃ Lb, Lb = b.peaks.length := ⟨_, rfl⟩
   rw [← hLa] at r0 m0 r1 m1 CC He
   rw [← hLb] at r0 m0 r1 m1 CC He
   rw [← hLa, ← hLb]
   clear hLa hLb
   go_enter Tryz.func175, Tryz.ntmps175
   go_wp2_with fail
   refine CC.out.mono ?_
   rintro e w1 ⟨rfl, h1⟩
   rw [← E.out]
   have he := He.out.next h1
   clear h1
   go_wp2_with fail
   go_ret
   exact ⟨rfl, he⟩
 · have E := hU (show fin = false by rw [hfin, sameRangeB, beq_false_of_ne p1]; rfl)
   have x1 : (a.size == b.size) = false := beq_false_of_ne p1
   clear hfin
   go_enter Tryz.func175, Tryz.ntmps175
   go_wp2_with fail
   go_ret
   exact ⟨ret_bool E.out.symm, He.out⟩
def sealV (s : SealD) (A1 : Option Addr) (c1 : Nat) (A2 : Option Addr) (c2 : Nat) : List Value := [.int .i64 s.leaves.size, .slice A1 s.leaves.peaks.length c1, .int .i64 s.taken.size, .slice A2 s.taken.peaks.length c2, .int .i64 s.head.number, .int .i64 s.head.size, .string s.head.root, .int .i64 s.head.taken, .string s.head.takenRoot]
theorem sameSeal_any (A1 A2 A3 A4 : Option Addr) (c1 c2 c3 c4 : Nat) (s t : SealD) (w : World) (h1 : ReadsL w w.heap.size sone 1 A1 s.leaves.peaks) (h2 : ReadsL w w.heap.size sone 1 A2 s.taken.peaks) (h3 : ReadsL w w.heap.size sone 1 A3 t.leaves.peaks) (h4 : ReadsL w w.heap.size sone 1 A4 t.taken.peaks)
 (l1 : s.leaves.peaks.length ≤ 1048576) (l2 : s.taken.peaks.length ≤ 1048576) (l3 : t.leaves.peaks.length ≤ 1048576) (l4 : t.taken.peaks.length ≤ 1048576) :
 Calls Tryz.prog 109 #[.agg (sealV s A1 c1 A2 c2).toArray, .agg (sealV t A3 c3 A4 c4).toArray] w fun e w' => e = .returned (.bool (sameSealB s t)) ∧ Ext w w' := by
 obtain ⟨B0, B1, he⟩ := two_blks w (sealV s A1 c1 A2 c2).toArray (sealV t A3 c3 A4 c4).toArray 57 57
 have C1 := hU (sameRange_any A1 A3 c1 c3 s.leaves t.leaves _ (h1.ext he) (h3.ext he) l1 l3)
 have C2 := hU (fun (W : World) (hW : Ext w W) => sameRange_any A2 A4 c2 c4 s.taken t.taken W (h2.ext hW) (h4.ext hW) l2 l4)
 have K0 := hU B0; have K1 := hU B1; have He := hU he
 have HQ := HeadD.run_eql s.head t.head
 obtain ⟨r0, m0⟩ := B0.rules
 obtain ⟨r1, m1⟩ := B1.rules
 obtain ⟨fin, hfin⟩ : ∃ fin, fin = sameSealB s t := ⟨_, rfl⟩
 rw [← hfin]
 have F := hU (show fin = (sameRangeB s.leaves t.leaves && sameRangeB s.taken t.taken && s.head.eqb t.head) from hfin)
 clear B0 B1 he hfin h1 h2 h3 h4
 simp only [sealV] at C1 K0 K1 He r0 r1 m0 m1 ⊢
 cases p1 : sameRangeB s.leaves t.leaves
 · have E := hU (show fin = false by rw [F.out, p1]; rfl)
   rw [p1] at C1
   go_enter Tryz.func109, Tryz.ntmps109
   go_wp2_with fail
   refine C1.out.mono ?_
   rintro e w1 ⟨rfl, hx⟩
   have he := He.out.next hx
   clear hx
   go_wp2_with fail
   go_ret
   exact ⟨ret_bool E.out.symm, he⟩
 rw [p1] at C1
 cases p2 : sameRangeB s.taken t.taken
 · have E := hU (show fin = false by rw [F.out, p1, p2]; rfl)
   rw [p2] at C2
   go_enter Tryz.func109, Tryz.ntmps109
   go_wp2_with fail
   obtain ⟨g, hg⟩ : ∃ g, g = w.heap.size := ⟨_, rfl⟩
   rw [← hg] at K0 K1
   rw [← hg]
   clear r0 m0 r1 m1 hg
   refine C1.out.mono ?_
   rintro e w1 ⟨rfl, hx⟩
   have he := He.out.next hx
   have k0 := K0.out.ext hx; have k1 := K1.out.ext hx
   clear hx K0 K1
   obtain ⟨r0, m0⟩ := k0.rules
   obtain ⟨r1, m1⟩ := k1.rules
   go_wp2_with fail
   refine (C2.out _ he).mono ?_
   rintro e w2 ⟨rfl, hx⟩
   replace he := he.next hx
   clear hx r0 m0 r1 m1 k0 k1
   go_wp2_with fail
   go_ret
   exact ⟨ret_bool E.out.symm, he⟩
 rw [p2] at C2
 have E := hU (show fin = s.head.eqb t.head by rw [F.out, p1, p2]; rfl)
 go_enter Tryz.func109, Tryz.ntmps109
 go_wp2_with fail
 obtain ⟨g, hg⟩ : ∃ g, g = w.heap.size := ⟨_, rfl⟩
 rw [← hg] at K0 K1
 rw [← hg]
 clear r0 m0 r1 m1 hg
 refine C1.out.mono ?_
 rintro e w1 ⟨rfl, hx⟩
 have he := He.out.next hx
 have k0 := K0.out.ext hx; have k1 := K1.out.ext hx
 clear hx K0 K1
 obtain ⟨r0, m0⟩ := k0.rules
 obtain ⟨r1, m1⟩ := k1.rules
 go_wp2_with fail
 refine (C2.out _ he).mono ?_
 rintro e w2 ⟨rfl, hx⟩
 replace he := he.next hx
 clear r0 m0 r1 m1
 replace k0 := k0.ext hx; replace k1 := k1.ext hx
 clear hx
 obtain ⟨r0, m0⟩ := k0.rules
 obtain ⟨r1, m1⟩ := k1.rules
 go_wp2_with fail
 go_ret
 exact ⟨ret_bool E.out.symm, he⟩
theorem l12SameRange_any (A A' : Option Addr) (c c' : Nat) (x y : RangeD) (w : World) (ha : ReadsL w w.heap.size sone 1 A x.peaks) (hb : ReadsL w w.heap.size sone 1 A' y.peaks) (hla : x.peaks.length ≤ 1048576) (hlb : y.peaks.length ≤ 1048576) :
 Calls Tryz.prog 103 #[.agg #[.int .i64 x.size, .slice A x.peaks.length c], .agg #[.int .i64 y.size, .slice A' y.peaks.length c']] w fun e w' => e = .returned (.bool (sameRangeB x y)) ∧ Ext w w' := by
 obtain ⟨B0, B1, he⟩ := two_blks w #[.int .i64 x.size, .slice A x.peaks.length c] #[.int .i64 y.size, .slice A' y.peaks.length c'] 54 54
 have K0 := hU B0; have K1 := hU B1; have He := hU he
 obtain ⟨r0, m0⟩ := B0.rules
 obtain ⟨r1, m1⟩ := B1.rules
 clear B0 B1 he
 obtain ⟨fin, hfin⟩ : ∃ fin, fin = sameRangeB x y := ⟨_, rfl⟩
 rw [← hfin]
 by_cases p1 : x.size = y.size
 case neg =>
  have E := hU (show fin = false by rw [hfin, sameRangeB, beq_false_of_ne p1]; rfl)
  clear hfin
  go_enter Tryz.func103, Tryz.ntmps103
  go_wp2_with fail
  go_ret
  exact ⟨ret_bool E.out.symm, He.out⟩
 have F := hU (show fin = peaksB x.peaks y.peaks by rw [hfin, sameRangeB, p1]; simp)
 have n0 : (x.size != y.size) = false := by simp [p1]
 by_cases hl : x.peaks.length = y.peaks.length
 case neg =>
  have E := hU (show fin = false by rw [F.out]; exact peaksB_len hl)
  have hl2 : ¬ ((x.peaks.length : Int) = (y.peaks.length : Int)) := by omega
  clear hfin p1
  go_enter Tryz.func103, Tryz.ntmps103
  go_wp2_with fail
  go_ret
  exact ⟨ret_bool E.out.symm, He.out⟩
 obtain ⟨a, haa⟩ : ∃ a, a = x.peaks := ⟨_, rfl⟩
 obtain ⟨b, hbb⟩ : ∃ b, b = y.peaks := ⟨_, rfl⟩
 rw [← haa] at ha hla hl F
 rw [← hbb] at hb hlb hl F
 obtain ⟨n, hn⟩ : ∃ n, n = a.length := ⟨_, rfl⟩
 have hn2 : b.length = n := by omega
 rw [← haa, ← hn] at K0 K1 He r0 m0 r1 m1
 rw [← hbb, hn2] at K0 K1 He r0 m0 r1 m1
 rw [← haa, ← hbb, ← hn, hn2]
 rw [← hn] at hla
 obtain ⟨z, hz⟩ : ∃ z, z = x.size := ⟨_, rfl⟩
 rw [← p1, ← hz] at K0 K1 He r0 m0 r1 m1 
 rw [← p1, ← hz]
 have HN := hU hn; have HN2 := hU hn2
 clear hfin hl hn hn2 hlb p1 n0 haa hbb hz
 go_enter Tryz.func103, Tryz.ntmps103
 go_wp2_with fail
 obtain ⟨g, hg⟩ : ∃ g, g = w.heap.size := ⟨_, rfl⟩
 rw [← hg] at K0 K1
 rw [← hg]
 clear r0 m0 r1 m1 hg
 go_loopw [5] (fun i wr => ∃ k : Nat, k ≤ n ∧ i = .int .i64 k ∧ (∀ j x y, j < k → a[j]? = some x → b[j]? = some y → (x.toList == y.toList) = true) ∧ Blk wr g 54 #[.int .i64 z, .slice A n c] ∧ Blk wr (g + 1) 54 #[.int .i64 z, .slice A' n c'] ∧ Ext w wr) (fun i _ => n - (intOf i).toNat)
 case atStart => exact ⟨0, Nat.zero_le _, rfl, fun j _ _ h => absurd h (Nat.not_lt_zero j), K0.out, K1.out, He.out⟩
 case round =>
  clear K0 K1 He
  obtain ⟨k, hk, rfl, hi, k0, k1, he⟩ := hrel
  have Hi := hU hi
  obtain ⟨r0, m0⟩ := k0.rules
  obtain ⟨r1, m1⟩ := k1.rules
  have K0 := hU k0; have K1 := hU k1
  clear hi k0 k1
  by_cases hlt : k < n
  case neg =>
   have E := hU (show fin = true by rw [F.out]; exact peaksB_all (by rw [← HN.out, HN2.out]) (fun j x y hj => Hi.out j x y (by have := HN.out; omega)))
   go_wp2_with fail
   go_ret
   exact ⟨ret_bool E.out.symm, he⟩
  obtain ⟨x, hx⟩ : ∃ x, a[k]? = some x := ⟨a[k]'(by have := HN.out; omega), List.getElem?_eq_getElem (by have := HN.out; omega)⟩
  obtain ⟨y, hy⟩ : ∃ y, b[k]? = some y := ⟨b[k]'(by have := HN2.out; omega), List.getElem?_eq_getElem (by have := HN2.out; omega)⟩
  obtain ⟨b1, o1, rfl, hb1, c1⟩ := texts_cell (ha.ext he) hx
  obtain ⟨b2, o2, rfl, hb2, c2⟩ := texts_cell (hb.ext he) hy
  have X := hU hx; have Y := hU hy
  clear hx hy ha hb
  cases q : (x.toList == y.toList)
  · have E := hU (show fin = false by rw [F.out]; exact peaksB_at X.out Y.out q)
    have q2 := nes_of_beq q
    go_wp2_with fail
    go_quiet (fail)
    go_wp2_with fail
    go_ret
    exact ⟨ret_bool E.out.symm, he.drewN _⟩
  · have E := hU (show ∀ j x y, j < k + 1 → a[j]? = some x → b[j]? = some y → (x.toList == y.toList) = true from fun j x' y' hj hx' hy' => by
     rcases Nat.lt_or_ge j k with h | h
     · exact Hi.out j x' y' h hx' hy'
     · obtain rfl : j = k := by omega
       have e1 := X.out.symm.trans hx'
       have e2 := Y.out.symm.trans hy'
       cases e1; cases e2; exact q)
    have q2 := nes_of_beq q
    go_wp2_with fail
    go_quiet (fail)
    go_wp2_with fail
    go_roundw
    case rel => exact ⟨k + 1, by omega, by go_num, E.out, K0.out.drewN _, K1.out.drewN _, he.drewN _⟩
    case measure => simp [intOf]; omega
set_option maxHeartbeats 4000000
theorem implBrokerOk_any (b : BrokerD) (A0 : Option Addr) (c0 : Nat) (A1 : Option Addr) (c1 : Nat) (A2 : Option Addr) (c2 : Nat) (A3 : Option Addr) (c3 : Nat) (A4 : Option Addr) (c4 : Nat) (w : World)
 (s0 : SlF AnyB EntryD.cells 5 w A0 b.log.entries c0) (s1 : SlF AnyB ReceiptD.cells 3 w A1 b.receipts c1) (s2 : SlF AnyB HeadD.cells 5 w A2 b.heads c2) (s3 : SlF AnyB sone 1 w A3 b.sealed.leaves.peaks c3) (s4 : SlF AnyB sone 1 w A4 b.sealed.taken.peaks c4) (ok0 : ∀ x ∈ b.log.entries, x.Ok) (ok1 : ∀ x ∈ b.receipts, x.Ok) (l3 : b.sealed.leaves.peaks.length ≤ 1048576) (l4 : b.sealed.taken.peaks.length ≤ 1048576) :
 Calls Tryz.prog 51 #[.agg (brkV b A0 c0 A1 c1 A2 c2 A3 c3 A4 c4).toArray] w fun e w' => e = .returned (.bool (brokerB b)) ∧ Ext w w' := by
 have K0 := hU (Blk.new w 59 (brkV b A0 c0 A1 c1 A2 c2 A3 c3 A4 c4).toArray)
 have He := hU (Ext.new (Below.refl w.heap.size w) (.cells (brkV b A0 c0 A1 c1 A2 c2 A3 c3 A4 c4).toArray 59))
 have BC : BrkC (w.alloc (.cells (brkV b A0 c0 A1 c1 A2 c2 A3 c3 A4 c4).toArray 59)) w.heap.size b A0 c0 A1 c1 A2 c2 := ⟨K0.out.lt, K0.out.cell 0, K0.out.cell 1, K0.out.cell 2, K0.out.cell 3⟩
 have PF := hU (partsFit_any w.heap.size b A0 c0 A1 c1 A2 c2 _ BC (s0.ext He.out) (s1.ext He.out) (s2.ext He.out) ok0 ok1)
 have S3 := hU s3; have S4 := hU s4
 have F := hU (brokerB_split b)
 clear BC s0 s1 s2 s3 s4
 obtain ⟨cs, hcs⟩ : ∃ cs, cs = brkV b A0 c0 A1 c1 A2 c2 A3 c3 A4 c4 := ⟨_, rfl⟩
 have hl : cs.length = 13 := by rw [hcs]; rfl
 rw [← hcs] at K0 He PF
 rw [← hcs]
 have HCS := hU hcs; have HL := hU hl
 clear hcs hl
 go_enter Tryz.func51, Tryz.ntmps51
 go_wp2_with fail
 obtain ⟨g, hg⟩ : ∃ g, g = w.heap.size := ⟨_, rfl⟩
 rw [← hg] at PF K0
 rw [← hg]
 have Hg := hU hg
 clear hg
 generalize w.alloc (.cells cs.toArray 59) = w1 at *
 refine PF.out.mono ?_
 rintro e w2 ⟨h1, h⟩
 have k0 := K0.out.ext h1
 have he := He.out.next h1
 rcases h with ⟨hb, rfl⟩ | ⟨hb, v1, v2, rfl, r1, r2, ap⟩
 · have E := hU (show brokerB b = false by rw [F.out, hb]; rfl)
   clear hb h1 K0 He
   simp only [sealNC, hz]
   go_wp2_with fail
   go_ret
   exact ⟨ret_bool E.out.symm, he.new _⟩
 · obtain ⟨a1, d1, hf1, _, rd1⟩ := r1.reads
   obtain ⟨a2, d2, hf2, _, rd2⟩ := r2.reads
   obtain ⟨S, hS⟩ : ∃ S, S = sealOfH b.width (leavesH b.width b.log.entries) (takenH b.width b.receipts) (lastH b.heads) := ⟨_, rfl⟩
   have hSh : S.head = lastH b.heads := by rw [hS]; rfl
   rw [← hS] at r1 r2 rd1 rd2 hf1 hf2
   rw [← hS, ← hSh, hf1, hf2]
   have hl1 : S.leaves.peaks.length ≤ 1048576 := by rw [hS]; exact (seal_lens hb).1
   have hl2 : S.taken.peaks.length ≤ 1048576 := by rw [hS]; exact (seal_lens hb).2
   have E := hU (show brokerB b = sameSealB S b.sealed by rw [F.out, hb, hS]; rfl)
   have KB := hU k0; have HE := hU he; have RD1 := hU rd1; have RD2 := hU rd2
   simp only [sealCs]
   clear hS hSh hb r1 r2 ap hf1 hf2 rd1 rd2 k0 he h1 K0 He PF
   go_upto_region 2 with fail
   have KX := Blk.new w2 57 #[.int .i64 S.leaves.size, .slice a1 S.leaves.peaks.length d1, .int .i64 S.taken.size, .slice a2 S.taken.peaks.length d2, .int .i64 S.head.number, .int .i64 S.head.size, .string S.head.root, .int .i64 S.head.taken, .string S.head.takenRoot]
   have hx := Ext.new (Below.refl w2.heap.size w2) (.cells #[.int .i64 S.leaves.size, .slice a1 S.leaves.peaks.length d1, .int .i64 S.taken.size, .slice a2 S.taken.peaks.length d2, .int .i64 S.head.number, .int .i64 S.head.size, .string S.head.root, .int .i64 S.head.taken, .string S.head.takenRoot] 57)
   replace KB := hU (KB.out.ext hx); replace HE := hU (HE.out.next hx); replace RD1 := hU (Reads.ext RD1.out hx); replace RD2 := hU (Reads.ext RD2.out hx)
   obtain ⟨q, hq⟩ : ∃ q, q = w2.heap.size := ⟨_, rfl⟩
   rw [← hq] at KX
   rw [← hq]
   clear hq hx
   generalize w2.alloc (.cells #[.int .i64 S.leaves.size, .slice a1 S.leaves.peaks.length d1, .int .i64 S.taken.size, .slice a2 S.taken.peaks.length d2, .int .i64 S.head.number, .int .i64 S.head.size, .string S.head.root, .int .i64 S.head.taken, .string S.head.takenRoot] 57) = w3 at *
   obtain ⟨rx, fx⟩ := KX.rules
   have kb := KB.out
   rw [HCS.out] at kb
   have y0 := kb.cell 4
   have y1 := kb.cell 5
   have y2 := kb.cell 6
   have y3 := kb.cell 7
   have y4 := kb.cell 8
   have y5 := kb.cell 9
   have y6 := kb.cell 10
   have y7 := kb.cell 11
   have y8 := kb.cell 12
   replace y0 : w3.cell? ⟨g, 4, none⟩ = some (.int .i64 b.sealed.leaves.size) := y0
   replace y1 : w3.cell? ⟨g, 5, none⟩ = some (.slice A3 b.sealed.leaves.peaks.length c3) := y1
   replace y2 : w3.cell? ⟨g, 6, none⟩ = some (.int .i64 b.sealed.taken.size) := y2
   replace y3 : w3.cell? ⟨g, 7, none⟩ = some (.slice A4 b.sealed.taken.peaks.length c4) := y3
   replace y4 : w3.cell? ⟨g, 8, none⟩ = some (.int .i64 b.sealed.head.number) := y4
   replace y5 : w3.cell? ⟨g, 9, none⟩ = some (.int .i64 b.sealed.head.size) := y5
   replace y6 : w3.cell? ⟨g, 10, none⟩ = some (.string b.sealed.head.root) := y6
   replace y7 : w3.cell? ⟨g, 11, none⟩ = some (.int .i64 b.sealed.head.taken) := y7
   replace y8 : w3.cell? ⟨g, 12, none⟩ = some (.string b.sealed.head.takenRoot) := y8
   have C := hU (sameSeal_any a1 a2 A3 A4 d1 d2 c3 c4 S b.sealed w3 RD1.out RD2.out (S3.out.ext HE.out).reads (S4.out.ext HE.out).reads hl1 hl2 l3 l4)
   simp only [sealV] at C
   clear kb
   go_wp2_with fail
   refine C.out.mono ?_
   rintro e w4 ⟨rfl, h1⟩
   have he := HE.out.next h1
   rw [← E.out]
   clear h1 rx fx y0 y1 y2 y3 y4 y5 y6 y7 y8
   go_wp2_with fail
   go_ret
   exact ⟨rfl, he⟩
theorem ft_eqs {b : BrokerD} {t : ByteArray} {ix n : Int} (h : brokerB b = true) : ftE b t ix n = ftAE b t ix n ∧ ftL b t ix n = ftAL b t ix n ∧ ftP b t ix n = lfAP b (ftIx b t ix) n ∧ ftCode b t ix n = lfCode b (ftIx b t ix) n := by
 have h1 : ftCode b t ix n = lfCode b (ftIx b t ix) n := by rw [ftCode, h, if_pos rfl]
 exact ⟨by rw [ftE, h1, ftAE, lfAE], by rw [ftL, h1, ftAL], by rw [ftP, h1, lfAP], h1⟩
theorem ft_end {b : BrokerD} {t : ByteArray} {ix n : Int} {w w' : World} {e : Ending} {v : Value} (h : brokerB b = false) (he : e = .returned (.tuple #[.agg #[.string ⟨#[]⟩, .int .i64 0, .int .i64 0, .string ⟨#[]⟩, .string ⟨#[]⟩], .int .i64 0, v, .int .i64 1])) (ho : RowT w.heap.size w' v []) (hx : Ext w w') : FtAns (ftE b t ix n) (ftL b t ix n) (ftP b t ix n) (ftCode b t ix n) w e w' := by
 have h1 : ftCode b t ix n = 1 := by rw [ftCode, h]; rfl
 have hz := ft_bad h1 (by decide)
 rw [hz.1, hz.2.1, hz.2.2, h1]
 exact ⟨v, zE, rfl, he, ho, hx⟩
theorem implFetch_any (b : BrokerD) (t : ByteArray) (ix n : Int) (A0 : Option Addr) (a0 : Nat) (A1 : Option Addr) (a1 : Nat) (A2 : Option Addr) (a2 : Nat) (A3 : Option Addr) (a3 : Nat) (A4 : Option Addr) (a4 : Nat) (w : World) (s : BArg AnyB w b A0 a0 A1 a1 A2 a2 A3 a3 A4 a4) (ok0 : ∀ x ∈ b.log.entries, x.Ok) (ok1 : ∀ x ∈ b.receipts, x.Ok) (hz : BSz b) :
 Calls Tryz.prog 17 #[.agg (brkV b A0 a0 A1 a1 A2 a2 A3 a3 A4 a4).toArray, .string t, .int .i64 ix, .int .i64 n] w (FtAns (ftE b t ix n) (ftL b t ix n) (ftP b t ix n) (ftCode b t ix n) w) := by
 have BOK := hU (fun (W : World) (hW : Ext w W) => implBrokerOk_any b A0 a0 A1 a1 A2 a2 A3 a3 A4 a4 W (s.ext hW).e (s.ext hW).r (s.ext hW).h (s.ext hW).u (s.ext hW).v ok0 ok1 hz.u hz.v)
 have FT := hU (fun (hB : brokerB b = true) (g : Nat) (W : World) (hW : Ext w W) (hb : Blk W g 59 (brkV b A0 a0 A1 a1 A2 a2 A3 a3 A4 a4).toArray) => fetch_any b t ix n A0 a0 A1 a1 A2 a2 A3 a3 A4 a4 g W hb (s.ext hW).e (s.ext hW).h ok0 hB)
 obtain ⟨cs, hcs⟩ : ∃ cs, cs = (brkV b A0 a0 A1 a1 A2 a2 A3 a3 A4 a4) := ⟨_, rfl⟩
 have HL13 := hU (show cs.length = 13 by rw [hcs]; rfl)
 rw [← hcs] at BOK FT
 rw [← hcs]
 clear s ok0 ok1 hz hcs
 obtain ⟨B1, B2, he⟩ := two_new w cs.toArray #[.string ⟨#[]⟩, .int .i64 0, .int .i64 0, .string ⟨#[]⟩, .string ⟨#[]⟩] 59 46
 obtain ⟨g1, hg1⟩ : ∃ g1, g1 = w.heap.size := ⟨_, rfl⟩
 obtain ⟨g2, hg2⟩ : ∃ g2, g2 = w.heap.size + 1 := ⟨_, rfl⟩
 go_enter Tryz.func17, Tryz.ntmps17
 go_upto_region 1 with fail
 obtain ⟨w3, hw3⟩ : ∃ w3, w3 = (w.alloc (.cells cs.toArray 59)).alloc (.cells #[.string ⟨#[]⟩, .int .i64 0, .int .i64 0, .string ⟨#[]⟩, .string ⟨#[]⟩] 46) := ⟨_, rfl⟩
 rw [← hw3] at B1 B2 he
 rw [← hw3]
 rw [← hg2] at B2
 rw [← hg1] at B1
 rw [← hg2, ← hg1]
 have hw : w.heap.size ≤ g2 := by omega
 clear hw3 hg1 hg2
 have RX := hU (Blk.range B1)
 go_wp2_with (refine wpList_load_mid rfl 59 _ rfl g1 0 rfl cs _ RX.out Tryz.underlying59 rfl (by rw [HL13.out]; kernel_rfl) ?_)
 refine (BOK.out _ he).mono ?_
 rintro e w4 ⟨rfl, h1⟩
 replace he := he.next h1; replace B1 := B1.ext h1; replace B2 := B2.ext h1
 clear h1 RX BOK
 cases pb : brokerB b
 · have PB := hU pb
   have X4 := hU (B2.put 0 [.string ⟨#[]⟩, .int .i64 0, .int .i64 0, .string ⟨#[]⟩, .string ⟨#[]⟩] #[.string ⟨#[]⟩, .int .i64 0, .int .i64 0, .string ⟨#[]⟩, .string ⟨#[]⟩] (by simp) rfl)
   have X5 := hU (ext_setCells (W := w) hw [.string ⟨#[]⟩, .int .i64 0, .int .i64 0, .string ⟨#[]⟩, .string ⟨#[]⟩] 0 _ he)
   obtain ⟨r0, m0⟩ := B2.rules
   clear FT B1 B2 he pb
   go_wp2_with fail
   exact ret_en3 rfl rfl X4.out Tryz.underlying46 rfl (by kernel_rfl) rfl (ft_end PB.out rfl (World.ownsRow_nil _ _ _ _) X5.out)
 have FE := hU (ft_eqs (t := t) (ix := ix) (n := n) pb)
 have F := hU (FT.out pb g1 w4 he B1)
 have hg2 := B2.lt
 have hs4 := he.size
 clear FT pb B1
 go_upto_region 3 with fail
 go_wp2_with fail
 refine F.out.mono ?_
 rintro e w5 ⟨v, d, hd, rfl, hr, h1⟩
 have HD := hU hd
 replace B2 := B2.ext h1; replace he := he.next h1
 have X4 := hU (B2.put 0 [.string d.topic, .int .i64 d.index, .int .i64 d.time, .string d.key, .string d.body] #[.string d.topic, .int .i64 d.index, .int .i64 d.time, .string d.key, .string d.body] (by simp) rfl)
 have X5 := hU (ext_setCells (W := w) hw [.string d.topic, .int .i64 d.index, .int .i64 d.time, .string d.key, .string d.body] 0 _ he)
 have X6 := hU (row_away (B := w.heap.size) hr hg2 hs4 [.string d.topic, .int .i64 d.index, .int .i64 d.time, .string d.key, .string d.body] 0)
 obtain ⟨r0, m0⟩ := B2.rules
 obtain ⟨ll, hll⟩ : ∃ ll, ll = ftAL b t ix n := ⟨_, rfl⟩
 obtain ⟨cc, hcc⟩ : ∃ cc, cc = lfCode b (ftIx b t ix) n := ⟨_, rfl⟩
 rw [← hll, ← hcc]
 have HL := hU hll; have HC := hU hcc
 clear F B2 he hd hr h1 hll hcc
 go_wp2_with fail
 refine ret_en3 rfl rfl X4.out Tryz.underlying46 rfl (by kernel_rfl) rfl ?_
 rw [FE.out.1, FE.out.2.1, FE.out.2.2.1, FE.out.2.2.2, ← HL.out, ← HC.out]
 exact ⟨v, d, HD.out, rfl, X6.out, X5.out⟩
theorem l05Root_nil (wd : Int) (A : Option Addr) (c : Nat) (w : World) : Calls Tryz.prog 100 #[.int .i64 wd, .slice A 0 c] w fun e w' => e = .returned (.string (treeR wd [])) ∧ Ext w w' := by
 have E := hU (show treeR wd [] = emptyR wd from rfl)
 go_enter Tryz.func100, Tryz.ntmps100
 go_wp2_with fail
 refine (specEmptyRoot_any wd _).mono ?_
 rintro e w1 ⟨rfl, h1⟩
 go_wp2_with fail
 go_ret
 exact ⟨ret_str E.out.symm, h1⟩
theorem l05Root_any (wd : Int) (hwd : inR wd 1 32 = true) : ∀ (m : Nat) (l : List ByteArray) (A : Option Addr) (c : Nat) (w : World), l.length ≤ m → l.length ≤ 512 → SlF AnyB sone 1 w A l c → (∀ s ∈ l, s.size = wd.toNat) →
 Calls Tryz.prog 100 #[.int .i64 wd, .slice A l.length c] w fun e w' => e = .returned (.string (treeR wd l)) ∧ Ext w w' := by
 intro m
 induction m with
 | zero =>
   intro l A c w hm _ _ _
   obtain rfl : l = [] := List.eq_nil_of_length_eq_zero (by omega)
   exact l05Root_nil wd A c w
 | succ m ih =>
   intro l A c w hm h5 hr hs
   rcases Nat.lt_or_ge l.length 2 with h2 | h2
   · match l, hm, h5, hr, hs, h2 with
     | [], _, _, _, _, _ => exact l05Root_nil wd A c w
     | [x], _, _, hr, _, _ =>
       obtain ⟨b, off, rfl, hb, hc⟩ := Reads.at_ hr.reads (k := 0) (by simp)
       have c0 : w.cell? ⟨b, off, none⟩ = some (.string x) := hc 0 _ rfl
       have E := hU (show treeR wd [x] = x from rfl)
       clear hc hr ih
       show Calls Tryz.prog 100 #[.int .i64 wd, .slice (some ⟨b, off, none⟩) 1 c] w _
       go_enter Tryz.func100, Tryz.ntmps100
       go_wp2_with fail
       go_ret
       exact ⟨ret_str E.out.symm, Below.refl w.heap.size w⟩
     | _ :: _ :: r, _, _, _, _, h2 => exact absurd h2 (by simp)
   obtain ⟨b, off, rfl, hb, hc⟩ := Reads.at_ hr.reads (k := 0) (by omega)
   have l1 := half_lt h2
   have l2 := half_pos l.length
   have MR : treeR wd l = nodeT wd (treeR wd (l.take (half l.length)) ++ treeR wd (l.drop (half l.length))) := mroot_more _ _ h2
   have HH := hU (specHalfOf_any l.length w h2 h5)
   obtain ⟨hf, hhf⟩ : ∃ hf, hf = half l.length := ⟨_, rfl⟩
   rw [← hhf] at l1 l2 MR HH
   clear hhf hc
   have t1 : (l.take hf).length = hf := by rw [List.length_take]; omega
   have t2 : (l.drop hf).length = l.length - hf := List.length_drop ..
   have sx := treeR_size hwd _ (l.take hf) (Nat.le_refl _) (fun s h => hs s (List.mem_of_mem_take h))
   have sy := treeR_size hwd _ (l.drop hf) (Nat.le_refl _) (fun s h => hs s (List.mem_of_mem_drop h))
   have C1 : Hid (∀ W : World, Ext w W → Calls Tryz.prog 100 #[.int .i64 wd, .slice (some ⟨b, off, none⟩) hf c] W fun e w' => e = .returned (.string (treeR wd (l.take hf))) ∧ Ext W w') := hU (fun W h => by
    have := ih (l.take hf) (some ⟨b, off, none⟩) c W (by omega) (by omega) (slf_takeT (hr.ext h) hf (by omega)) (fun s h => hs s (List.mem_of_mem_take h))
    rwa [t1] at this)
   have C2 : Hid (∀ W : World, Ext w W → Calls Tryz.prog 100 #[.int .i64 wd, .slice (some ⟨b, off + hf, none⟩) (l.length - hf) (c - hf)] W fun e w' => e = .returned (.string (treeR wd (l.drop hf))) ∧ Ext W w') := hU (fun W h => by
    have := ih (l.drop hf) (some ⟨b, off + hf, none⟩) (c - hf) W (by omega) (by omega) (slf_dropT (hr.ext h) hf (by omega)) (fun s h => hs s (List.mem_of_mem_drop h))
    rwa [t2] at this)
   obtain ⟨X, hX⟩ : ∃ X, X = treeR wd (l.take hf) := ⟨_, rfl⟩
   obtain ⟨Y, hY⟩ : ∃ Y, Y = treeR wd (l.drop hf) := ⟨_, rfl⟩
   obtain ⟨R, hR⟩ : ∃ R, R = nodeT wd (X ++ Y) := ⟨_, rfl⟩
   rw [← hX] at sx MR C1
   rw [← hY] at sy MR C2
   rw [← hR] at MR
   have NH : Hid (∀ W : World, Calls Tryz.prog 171 #[.int .i64 wd, .string X, .string Y] W fun e w' => e = .returned (.tuple #[.string R, .bool true]) ∧ Ext W w') := hU (fun W => by rw [hR]; exact specNodeHash_good wd X Y W hwd sx sy)
   have E := hU MR
   have hle := hr.le
   have hcap := hr.cap
   have hcap2 : c ≤ 9223372036854775807 := by unfold maxLen at hcap; omega
   have d0 : ((l.length : Int) == 0) = false := beq_false_of_ne (by omega)
   have d1 : ((l.length : Int) == 1) = false := beq_false_of_ne (by omega)
   have e0 : ¬ (l.length = 0) := by omega
   have e1 : ¬ (l.length = 1) := by omega
   have e2 : ¬ ((l.length : Int) = 1) := by omega
   have hfl : hf ≤ l.length := by omega
   have hfc : hf ≤ c := by omega
   have hcf : ¬ c = hf := by omega
   clear hX hY hR MR sx sy t1 t2 ih hr hs hcap
   go_enter Tryz.func100, Tryz.ntmps100
   go_wp2_with fail
   refine HH.out.mono ?_
   rintro e w1 ⟨rfl, rfl⟩
   go_upto_region 8 with fail
   refine wp_region_held_drew (S := fun w' => Ext w w') (by kernel_rfl) (show Ext w w from Below.refl w.heap.size w).drew (fun hH => ?_)
   refine takeQ 0 (.int .i64 wd) (some 29) rfl rfl (by kernel_rfl) (Or.inl ⟨by rfl, ?yz901⟩) hH ?rz901
   case yz901 => intro w' hS'; go_simp; try with_reducible rfl
   try simp only [zA]
   refine takeQ 1 (.int .i64 wd) (some 30) rfl rfl (by kernel_rfl) (Or.inl ⟨by rfl, ?yz902⟩) hH ?rz902
   case yz902 => intro w' hS'; go_simp; try with_reducible rfl
   try simp only [zA]
   refine takeQ 2 (.slice (some ⟨b, off, none⟩) l.length c) (some 31) rfl rfl (by kernel_rfl) (Or.inl ⟨by rfl, ?yz903⟩) hH ?rz903
   case yz903 => intro w' hS'; go_simp; try with_reducible rfl
   try simp only [zA]
   refine takeQ 3 (.int .i64 (hf : Int)) (some 32) rfl rfl (by kernel_rfl) (Or.inl ⟨by rfl, ?yz904⟩) hH ?rz904
   case yz904 => intro w' hS'; go_simp; try with_reducible rfl
   try simp only [zA]
   refine takeQ 4 (.slice (some ⟨b, off, none⟩) hf c) (some 33) rfl rfl (by kernel_rfl) (Or.inl ⟨by rfl, ?yz905⟩) hH ?rz905
   case yz905 => intro w' hS'; go_simp; try with_reducible rfl
   try simp only [zA]
   refine takeQ 6 (.int .i64 wd) (some 35) rfl rfl (by kernel_rfl) (Or.inl ⟨by rfl, ?yz906⟩) hH ?rz906
   case yz906 => intro w' hS'; go_simp; try with_reducible rfl
   try simp only [zA]
   refine takeQ 7 (.slice (some ⟨b, off, none⟩) l.length c) (some 36) rfl rfl (by kernel_rfl) (Or.inl ⟨by rfl, ?yz907⟩) hH ?rz907
   case yz907 => intro w' hS'; go_simp; try with_reducible rfl
   try simp only [zA]
   refine takeQ 8 (.int .i64 (hf : Int)) (some 37) rfl rfl (by kernel_rfl) (Or.inl ⟨by rfl, ?yz908⟩) hH ?rz908
   case yz908 => intro w' hS'; go_simp; try with_reducible rfl
   try simp only [zA]
   refine takeQ 9 (.slice (some ⟨b, off + hf, none⟩) (l.length - hf) (c - hf)) (some 38) rfl rfl (by kernel_rfl) (Or.inl ⟨by rfl, ?yz909⟩) hH ?rz909
   case yz909 => intro w' hS'; go_simp; try with_reducible rfl
   try simp only [zA]
   refine oneH 5 (oi := _) (some 34) (by kernel_rfl) rfl rfl rfl (fun K' hK => ?_)
   refine ⟨?_⟩
   rw [if_pos (by rfl)]
   go_simp
   refine (C1.out _ hH).mono ?_
   rintro e w2 ⟨rfl, h1⟩
   refine hK.out _ _ ⟨_, rfl⟩ (hH.next h1) (fun hH2 => ?_)
   clear hK K' hH h1
   have hH := hH2
   clear hH2
   try simp only [zB]
   refine oneH 10 (oi := _) (some 39) (by kernel_rfl) rfl rfl rfl (fun K' hK => ?_)
   refine ⟨?_⟩
   rw [if_pos (by rfl)]
   go_simp
   refine (C2.out _ hH).mono ?_
   rintro e w2 ⟨rfl, h1⟩
   refine hK.out _ _ ⟨_, rfl⟩ (hH.next h1) (fun hH2 => ?_)
   clear hK K' hH h1
   have hH := hH2
   clear hH2
   try simp only [zB]
   refine oneH 11 (oi := _) (some 40) (by kernel_rfl) rfl rfl rfl (fun K' hK => ?_)
   refine ⟨?_⟩
   rw [if_pos (by rfl)]
   go_simp
   refine (NH.out _).mono ?_
   rintro e w2 ⟨rfl, h1⟩
   refine hK.out _ _ ⟨_, rfl⟩ (hH.next h1) (fun hH2 => ?_)
   clear hK K' hH h1
   have hH := hH2
   clear hH2
   try simp only [zB]
   refine takeQ 12 (.tuple #[.string R, .bool true]) (some 28) rfl rfl (by kernel_rfl) (Or.inl ⟨by rfl, ?yz910⟩) hH ?rz910
   case yz910 => intro w' hS'; go_simp; try with_reducible rfl
   try simp only [zA]
   refine takeQ 13 (.string R) (some 41) rfl rfl (by kernel_rfl) (Or.inl ⟨by rfl, ?yz911⟩) hH ?rz911
   case yz911 => intro w' hS'; go_simp; try with_reducible rfl
   try simp only [zA]
   refine takeQ 14 (.bool true) (some 42) rfl rfl (by kernel_rfl) (Or.inl ⟨by rfl, ?yz912⟩) hH ?rz912
   case yz912 => intro w' hS'; go_simp; try with_reducible rfl
   try simp only [zA]
   refine takeQ 15 (.string R) (some 9) rfl rfl (by kernel_rfl) (Or.inl ⟨by rfl, ?yz913⟩) hH ?rz913
   case yz913 => intro w' hS'; go_simp; try with_reducible rfl
   try simp only [zA]
   refine takeQ 16 (.bool true) (some 10) rfl rfl (by kernel_rfl) (Or.inl ⟨by rfl, ?yz914⟩) hH ?rz914
   case yz914 => intro w' hS'; go_simp; try with_reducible rfl
   try simp only [zA]
   have he2 := hH
   clear hH
   refine wpAnyH_done (by kernel_rfl) ?_ _
   go_wp2_with fail
   go_ret
   exact ⟨ret_str E.out.symm, he2⟩
end Go.Proofs.YtlgdghpnfclgpaaGreat
