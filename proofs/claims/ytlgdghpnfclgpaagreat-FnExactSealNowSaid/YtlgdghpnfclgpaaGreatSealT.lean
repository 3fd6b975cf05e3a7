/-
  SameC; BrkI; SealT: No condition.
-/
import Derived.Test.YtlgdghpnfclgpaaGreatMapRec
import Derived.Test.YtlgdghpnfclgpaaGreatFollowsB
import Derived.Test.YtlgdghpnfclgpaaGreatPartsB
import Derived.Test.YtlgdghpnfclgpaaGreatDisk0
import Derived.Test.YtlgdghpnfclgpaaGreatSealB
import Derived.Test.YtlgdghpnfclgpaaGreatHeadsOk2
namespace Go.Proofs.YtlgdghpnfclgpaaGreat
set_option maxHeartbeats 2000000
set_option maxRecDepth 100000
set_option linter.unusedSimpArgs false
open Go.RowKit
set_option linter.unusedVariables false
theorem sameRange_any (A A' : Option Addr) (c c' : Nat) (a b : RangeD) (w : World) (ha : ReadsL w w.heap.size sone 1 A a.peaks) (hb : ReadsL w w.heap.size sone 1 A' b.peaks) (hla : a.peaks.length ≤ 1048576) (hlb : b.peaks.length ≤ 1048576) :
 Calls Tryz.prog 175 #[.agg #[.int .i64 a.size, .slice A a.peaks.length c], .agg #[.int .i64 b.size, .slice A' b.peaks.length c']] w fun e w' => e = .returned (.bool (sameRangeB a b)) ∧ Ext w w' := by
 obtain ⟨B0, B1, he⟩ := two_blks w #[.int .i64 a.size, .slice A a.peaks.length c] #[.int .i64 b.size, .slice A' b.peaks.length c'] 54 54
 have He := hU he
 obtain ⟨r0, m0⟩ := B0.rules
 obtain ⟨r1, m1⟩ := B1.rules
 have CC := hU (slicesEqual_any A A' c c' a.peaks b.peaks _ (ha.ext he) (hb.ext he) hla hlb)
 clear B0 B1 he
 obtain ⟨fin, hfin⟩ : ∃ fin, fin = sameRangeB a b := ⟨_, rfl⟩
 rw [← hfin]
 by_cases p1 : a.size = b.size
 · have E := hU (show fin = peaksB a.peaks b.peaks by rw [hfin, sameRangeB, p1]; simp)
   have x1 : (a.size == b.size) = true := beq_iff_eq.2 p1
   clear hfin p1
   obtain ⟨La, hLa⟩ : ∃ La, La = a.peaks.length := ⟨_, rfl⟩
   obtain ⟨Lb, hLb⟩ : ∃ Lb, Lb = b.peaks.length := ⟨_, rfl⟩
   rw [← hLa] at r0 m0 r1 m1 CC He
   rw [← hLb] at r0 m0 r1 m1 CC He
   rw [← hLa, ← hLb]
   clear hLa hLb
   go_enter Tryz.func175, Tryz.ntmps175
   go_wp2_with fail
   refine CC.out.mono ?_
   rintro e w1 ⟨rfl, h1⟩
   rw [← E.out]
   have he := He.out.next h1
   clear h1
   go_wp2_with fail
   go_ret
   exact ⟨rfl, he⟩
 · have E := hU (show fin = false by rw [hfin, sameRangeB, beq_false_of_ne p1]; rfl)
   have x1 : (a.size == b.size) = false := beq_false_of_ne p1
   clear hfin
   go_enter Tryz.func175, Tryz.ntmps175
   go_wp2_with fail
   go_ret
   exact ⟨ret_bool E.out.symm, He.out⟩
def sealV (s : SealD) (A1 : Option Addr) (c1 : Nat) (A2 : Option Addr) (c2 : Nat) : List Value := [.int .i64 s.leaves.size, .slice A1 s.leaves.peaks.length c1, .int .i64 s.taken.size, .slice A2 s.taken.peaks.length c2, .int .i64 s.head.number, .int .i64 s.head.size, .string s.head.root, .int .i64 s.head.taken, .string s.head.takenRoot]
theorem sameSeal_any (A1 A2 A3 A4 : Option Addr) (c1 c2 c3 c4 : Nat) (s t : SealD) (w : World) (h1 : ReadsL w w.heap.size sone 1 A1 s.leaves.peaks) (h2 : ReadsL w w.heap.size sone 1 A2 s.taken.peaks) (h3 : ReadsL w w.heap.size sone 1 A3 t.leaves.peaks) (h4 : ReadsL w w.heap.size sone 1 A4 t.taken.peaks)
 (l1 : s.leaves.peaks.length ≤ 1048576) (l2 : s.taken.peaks.length ≤ 1048576) (l3 : t.leaves.peaks.length ≤ 1048576) (l4 : t.taken.peaks.length ≤ 1048576) :
 Calls Tryz.prog 109 #[.agg (sealV s A1 c1 A2 c2).toArray, .agg (sealV t A3 c3 A4 c4).toArray] w fun e w' => e = .returned (.bool (sameSealB s t)) ∧ Ext w w' := by
 obtain ⟨B0, B1, he⟩ := two_blks w (sealV s A1 c1 A2 c2).toArray (sealV t A3 c3 A4 c4).toArray 57 57
 have C1 := hU (sameRange_any A1 A3 c1 c3 s.leaves t.leaves _ (h1.ext he) (h3.ext he) l1 l3)
 have C2 := hU (fun (W : World) (hW : Ext w W) => sameRange_any A2 A4 c2 c4 s.taken t.taken W (h2.ext hW) (h4.ext hW) l2 l4)
 have K0 := hU B0; have K1 := hU B1; have He := hU he
 have HQ := HeadD.run_eql s.head t.head
 obtain ⟨r0, m0⟩ := B0.rules
 obtain ⟨r1, m1⟩ := B1.rules
 obtain ⟨fin, hfin⟩ : ∃ fin, fin = sameSealB s t := ⟨_, rfl⟩
 rw [← hfin]
 have F := hU (show fin = (sameRangeB s.leaves t.leaves && sameRangeB s.taken t.taken && s.head.eqb t.head) from hfin)
 clear B0 B1 he hfin h1 h2 h3 h4
 simp only [sealV] at C1 K0 K1 He r0 r1 m0 m1 ⊢
 cases p1 : sameRangeB s.leaves t.leaves
 · have E := hU (show fin = false by rw [F.out, p1]; rfl)
   rw [p1] at C1
   go_enter Tryz.func109, Tryz.ntmps109
   go_wp2_with fail
   refine C1.out.mono ?_
   rintro e w1 ⟨rfl, hx⟩
   have he := He.out.next hx
   clear hx
   go_wp2_with fail
   go_ret
   exact ⟨ret_bool E.out.symm, he⟩
 rw [p1] at C1
 cases p2 : sameRangeB s.taken t.taken
 · have E := hU (show fin = false by rw [F.out, p1, p2]; rfl)
   rw [p2] at C2
   go_enter Tryz.func109, Tryz.ntmps109
   go_wp2_with fail
   obtain ⟨g, hg⟩ : ∃ g, g = w.heap.size := ⟨_, rfl⟩
   rw [← hg] at K0 K1
   rw [← hg]
   clear r0 m0 r1 m1 hg
   refine C1.out.mono ?_
   rintro e w1 ⟨rfl, hx⟩
   have he := He.out.next hx
   have k0 := K0.out.ext hx; have k1 := K1.out.ext hx
   clear hx K0 K1
   obtain ⟨r0, m0⟩ := k0.rules
   obtain ⟨r1, m1⟩ := k1.rules
   go_wp2_with fail
   refine (C2.out _ he).mono ?_
   rintro e w2 ⟨rfl, hx⟩
   replace he := he.next hx
   clear hx r0 m0 r1 m1 k0 k1
   go_wp2_with fail
   go_ret
   exact ⟨ret_bool E.out.symm, he⟩
 rw [p2] at C2
 have E := hU (show fin = s.head.eqb t.head by rw [F.out, p1, p2]; rfl)
 go_enter Tryz.func109, Tryz.ntmps109
 go_wp2_with fail
 obtain ⟨g, hg⟩ : ∃ g, g = w.heap.size := ⟨_, rfl⟩
 rw [← hg] at K0 K1
 rw [← hg]
 clear r0 m0 r1 m1 hg
 refine C1.out.mono ?_
 rintro e w1 ⟨rfl, hx⟩
 have he := He.out.next hx
 have k0 := K0.out.ext hx; have k1 := K1.out.ext hx
 clear hx K0 K1
 obtain ⟨r0, m0⟩ := k0.rules
 obtain ⟨r1, m1⟩ := k1.rules
 go_wp2_with fail
 refine (C2.out _ he).mono ?_
 rintro e w2 ⟨rfl, hx⟩
 replace he := he.next hx
 clear r0 m0 r1 m1
 replace k0 := k0.ext hx; replace k1 := k1.ext hx
 clear hx
 obtain ⟨r0, m0⟩ := k0.rules
 obtain ⟨r1, m1⟩ := k1.rules
 go_wp2_with fail
 go_ret
 exact ⟨ret_bool E.out.symm, he⟩
theorem l12SameRange_any (A A' : Option Addr) (c c' : Nat) (x y : RangeD) (w : World) (ha : ReadsL w w.heap.size sone 1 A x.peaks) (hb : ReadsL w w.heap.size sone 1 A' y.peaks) (hla : x.peaks.length ≤ 1048576) (hlb : y.peaks.length ≤ 1048576) :
 Calls Tryz.prog 103 #[.agg #[.int .i64 x.size, .slice A x.peaks.length c], .agg #[.int .i64 y.size, .slice A' y.peaks.length c']] w fun e w' => e = .returned (.bool (sameRangeB x y)) ∧ Ext w w' := by
 obtain ⟨B0, B1, he⟩ := two_blks w #[.int .i64 x.size, .slice A x.peaks.length c] #[.int .i64 y.size, .slice A' y.peaks.length c'] 54 54
 have K0 := hU B0; have K1 := hU B1; have He := hU he
 obtain ⟨r0, m0⟩ := B0.rules
 obtain ⟨r1, m1⟩ := B1.rules
 clear B0 B1 he
 obtain ⟨fin, hfin⟩ : ∃ fin, fin = sameRangeB x y := ⟨_, rfl⟩
 rw [← hfin]
 by_cases p1 : x.size = y.size
 case neg =>
  have E := hU (show fin = false by rw [hfin, sameRangeB, beq_false_of_ne p1]; rfl)
  clear hfin
  go_enter Tryz.func103, Tryz.ntmps103
  go_wp2_with fail
  go_ret
  exact ⟨ret_bool E.out.symm, He.out⟩
 have F := hU (show fin = peaksB x.peaks y.peaks by rw [hfin, sameRangeB, p1]; simp)
 have n0 : (x.size != y.size) = false := by simp [p1]
 by_cases hl : x.peaks.length = y.peaks.length
 case neg =>
  have E := hU (show fin = false by rw [F.out]; exact peaksB_len hl)
  have hl2 : ¬ ((x.peaks.length : Int) = (y.peaks.length : Int)) := by omega
  clear hfin p1
  go_enter Tryz.func103, Tryz.ntmps103
  go_wp2_with fail
  go_ret
  exact ⟨ret_bool E.out.symm, He.out⟩
 obtain ⟨a, haa⟩ : ∃ a, a = x.peaks := ⟨_, rfl⟩
 obtain ⟨b, hbb⟩ : ∃ b, b = y.peaks := ⟨_, rfl⟩
 rw [← haa] at ha hla hl F
 rw [← hbb] at hb hlb hl F
 obtain ⟨n, hn⟩ : ∃ n, n = a.length := ⟨_, rfl⟩
 have hn2 : b.length = n := by omega
 rw [← haa, ← hn] at K0 K1 He r0 m0 r1 m1
 rw [← hbb, hn2] at K0 K1 He r0 m0 r1 m1
 rw [← haa, ← hbb, ← hn, hn2]
 rw [← hn] at hla
 obtain ⟨z, hz⟩ : ∃ z, z = x.size := ⟨_, rfl⟩
 rw [← p1, ← hz] at K0 K1 He r0 m0 r1 m1 
 rw [← p1, ← hz]
 have HN := hU hn; have HN2 := hU hn2
 clear hfin hl hn hn2 hlb p1 n0 haa hbb hz
 go_enter Tryz.func103, Tryz.ntmps103
 go_wp2_with fail
 obtain ⟨g, hg⟩ : ∃ g, g = w.heap.size := ⟨_, rfl⟩
 rw [← hg] at K0 K1
 rw [← hg]
 clear r0 m0 r1 m1 hg
 go_loopw [5] (fun i wr => ∃ k : Nat, k ≤ n ∧ i = .int .i64 k ∧ (∀ j x y, j < k → a[j]? = some x → b[j]? = some y → (x.toList == y.toList) = true) ∧ Blk wr g 54 #[.int .i64 z, .slice A n c] ∧ Blk wr (g + 1) 54 #[.int .i64 z, .slice A' n c'] ∧ Ext w wr) (fun i _ => n - (intOf i).toNat)
 case atStart => exact ⟨0, Nat.zero_le _, rfl, fun j _ _ h => absurd h (Nat.not_lt_zero j), K0.out, K1.out, He.out⟩
 case round =>
  clear K0 K1 He
  obtain ⟨k, hk, rfl, hi, k0, k1, he⟩ := hrel
  have Hi := hU hi
  obtain ⟨r0, m0⟩ := k0.rules
  obtain ⟨r1, m1⟩ := k1.rules
  have K0 := hU k0; have K1 := hU k1
  clear hi k0 k1
  by_cases hlt : k < n
  case neg =>
   have E := hU (show fin = true by rw [F.out]; exact peaksB_all (by rw [← HN.out, HN2.out]) (fun j x y hj => Hi.out j x y (by have := HN.out; omega)))
   go_wp2_with fail
   go_ret
   exact ⟨ret_bool E.out.symm, he⟩
  obtain ⟨x, hx⟩ : ∃ x, a[k]? = some x := ⟨a[k]'(by have := HN.out; omega), List.getElem?_eq_getElem (by have := HN.out; omega)⟩
  obtain ⟨y, hy⟩ : ∃ y, b[k]? = some y := ⟨b[k]'(by have := HN2.out; omega), List.getElem?_eq_getElem (by have := HN2.out; omega)⟩
  obtain ⟨b1, o1, rfl, hb1, c1⟩ := texts_cell (ha.ext he) hx
  obtain ⟨b2, o2, rfl, hb2, c2⟩ := texts_cell (hb.ext he) hy
  have X := hU hx; have Y := hU hy
  clear hx hy ha hb
  cases q : (x.toList == y.toList)
  · have E := hU (show fin = false by rw [F.out]; exact peaksB_at X.out Y.out q)
    have q2 := nes_of_beq q
    go_wp2_with fail
    go_quiet (fail)
    go_wp2_with fail
    go_ret
    exact ⟨ret_bool E.out.symm, he.drewN _⟩
  · have E := hU (show ∀ j x y, j < k + 1 → a[j]? = some x → b[j]? = some y → (x.toList == y.toList) = true from fun j x' y' hj hx' hy' => by
     rcases Nat.lt_or_ge j k with h | h
     · exact Hi.out j x' y' h hx' hy'
     · obtain rfl : j = k := by omega
       have e1 := X.out.symm.trans hx'
       have e2 := Y.out.symm.trans hy'
       cases e1; cases e2; exact q)
    have q2 := nes_of_beq q
    go_wp2_with fail
    go_quiet (fail)
    go_wp2_with fail
    go_roundw
    case rel => exact ⟨k + 1, by omega, by go_num, E.out, K0.out.drewN _, K1.out.drewN _, he.drewN _⟩
    case measure => simp [intOf]; omega
set_option maxHeartbeats 4000000
theorem implBrokerOk_any (b : BrokerD) (A0 : Option Addr) (c0 : Nat) (A1 : Option Addr) (c1 : Nat) (A2 : Option Addr) (c2 : Nat) (A3 : Option Addr) (c3 : Nat) (A4 : Option Addr) (c4 : Nat) (w : World)
 (s0 : SlF AnyB EntryD.cells 5 w A0 b.log.entries c0) (s1 : SlF AnyB ReceiptD.cells 3 w A1 b.receipts c1) (s2 : SlF AnyB HeadD.cells 5 w A2 b.heads c2) (s3 : SlF AnyB sone 1 w A3 b.sealed.leaves.peaks c3) (s4 : SlF AnyB sone 1 w A4 b.sealed.taken.peaks c4) (ok0 : ∀ x ∈ b.log.entries, x.Ok) (ok1 : ∀ x ∈ b.receipts, x.Ok) (l3 : b.sealed.leaves.peaks.length ≤ 1048576) (l4 : b.sealed.taken.peaks.length ≤ 1048576) :
 Calls Tryz.prog 51 #[.agg (brkV b A0 c0 A1 c1 A2 c2 A3 c3 A4 c4).toArray] w fun e w' => e = .returned (.bool (brokerB b)) ∧ Ext w w' := by
 have K0 := hU (Blk.new w 59 (brkV b A0 c0 A1 c1 A2 c2 A3 c3 A4 c4).toArray)
 have He := hU (Ext.new (Below.refl w.heap.size w) (.cells (brkV b A0 c0 A1 c1 A2 c2 A3 c3 A4 c4).toArray 59))
 have BC : BrkC (w.alloc (.cells (brkV b A0 c0 A1 c1 A2 c2 A3 c3 A4 c4).toArray 59)) w.heap.size b A0 c0 A1 c1 A2 c2 := ⟨K0.out.lt, K0.out.cell 0, K0.out.cell 1, K0.out.cell 2, K0.out.cell 3⟩
 have PF := hU (partsFit_any w.heap.size b A0 c0 A1 c1 A2 c2 _ BC (s0.ext He.out) (s1.ext He.out) (s2.ext He.out) ok0 ok1)
 have S3 := hU s3; have S4 := hU s4
 have F := hU (brokerB_split b)
 clear BC s0 s1 s2 s3 s4
 obtain ⟨cs, hcs⟩ : ∃ cs, cs = brkV b A0 c0 A1 c1 A2 c2 A3 c3 A4 c4 := ⟨_, rfl⟩
 have hl : cs.length = 13 := by rw [hcs]; rfl
 rw [← hcs] at K0 He PF
 rw [← hcs]
 have HCS := hU hcs; have HL := hU hl
 clear hcs hl
 go_enter Tryz.func51, Tryz.ntmps51
 go_wp2_with fail
 obtain ⟨g, hg⟩ : ∃ g, g = w.heap.size := ⟨_, rfl⟩
 rw [← hg] at PF K0
 rw [← hg]
 have Hg := hU hg
 clear hg
 generalize w.alloc (.cells cs.toArray 59) = w1 at *
 refine PF.out.mono ?_
 rintro e w2 ⟨h1, h⟩
 have k0 := K0.out.ext h1
 have he := He.out.next h1
 rcases h with ⟨hb, rfl⟩ | ⟨hb, v1, v2, rfl, r1, r2, ap⟩
 · have E := hU (show brokerB b = false by rw [F.out, hb]; rfl)
   clear hb h1 K0 He
   simp only [sealNC, hz]
   go_wp2_with fail
   go_ret
   exact ⟨ret_bool E.out.symm, he.new _⟩
 · obtain ⟨a1, d1, hf1, _, rd1⟩ := r1.reads
   obtain ⟨a2, d2, hf2, _, rd2⟩ := r2.reads
   obtain ⟨S, hS⟩ : ∃ S, S = sealOfH b.width (leavesH b.width b.log.entries) (takenH b.width b.receipts) (lastH b.heads) := ⟨_, rfl⟩
   have hSh : S.head = lastH b.heads := by rw [hS]; rfl
   rw [← hS] at r1 r2 rd1 rd2 hf1 hf2
   rw [← hS, ← hSh, hf1, hf2]
   have hl1 : S.leaves.peaks.length ≤ 1048576 := by rw [hS]; exact (seal_lens hb).1
   have hl2 : S.taken.peaks.length ≤ 1048576 := by rw [hS]; exact (seal_lens hb).2
   have E := hU (show brokerB b = sameSealB S b.sealed by rw [F.out, hb, hS]; rfl)
   have KB := hU k0; have HE := hU he; have RD1 := hU rd1; have RD2 := hU rd2
   simp only [sealCs]
   clear hS hSh hb r1 r2 ap hf1 hf2 rd1 rd2 k0 he h1 K0 He PF
   go_upto_region 2 with fail
   have KX := Blk.new w2 57 #[.int .i64 S.leaves.size, .slice a1 S.leaves.peaks.length d1, .int .i64 S.taken.size, .slice a2 S.taken.peaks.length d2, .int .i64 S.head.number, .int .i64 S.head.size, .string S.head.root, .int .i64 S.head.taken, .string S.head.takenRoot]
   have hx := Ext.new (Below.refl w2.heap.size w2) (.cells #[.int .i64 S.leaves.size, .slice a1 S.leaves.peaks.length d1, .int .i64 S.taken.size, .slice a2 S.taken.peaks.length d2, .int .i64 S.head.number, .int .i64 S.head.size, .string S.head.root, .int .i64 S.head.taken, .string S.head.takenRoot] 57)
   replace KB := hU (KB.out.ext hx); replace HE := hU (HE.out.next hx); replace RD1 := hU (Reads.ext RD1.out hx); replace RD2 := hU (Reads.ext RD2.out hx)
   obtain ⟨q, hq⟩ : ∃ q, q = w2.heap.size := ⟨_, rfl⟩
   rw [← hq] at KX
   rw [← hq]
   clear hq hx
   generalize w2.alloc (.cells #[.int .i64 S.leaves.size, .slice a1 S.leaves.peaks.length d1, .int .i64 S.taken.size, .slice a2 S.taken.peaks.length d2, .int .i64 S.head.number, .int .i64 S.head.size, .string S.head.root, .int .i64 S.head.taken, .string S.head.takenRoot] 57) = w3 at *
   obtain ⟨rx, fx⟩ := KX.rules
   have kb := KB.out
   rw [HCS.out] at kb
   have y0 := kb.cell 4
   have y1 := kb.cell 5
   have y2 := kb.cell 6
   have y3 := kb.cell 7
   have y4 := kb.cell 8
   have y5 := kb.cell 9
   have y6 := kb.cell 10
   have y7 := kb.cell 11
   have y8 := kb.cell 12
   replace y0 : w3.cell? ⟨g, 4, none⟩ = some (.int .i64 b.sealed.leaves.size) := y0
   replace y1 : w3.cell? ⟨g, 5, none⟩ = some (.slice A3 b.sealed.leaves.peaks.length c3) := y1
   replace y2 : w3.cell? ⟨g, 6, none⟩ = some (.int .i64 b.sealed.taken.size) := y2
   replace y3 : w3.cell? ⟨g, 7, none⟩ = some (.slice A4 b.sealed.taken.peaks.length c4) := y3
   replace y4 : w3.cell? ⟨g, 8, none⟩ = some (.int .i64 b.sealed.head.number) := y4
   replace y5 : w3.cell? ⟨g, 9, none⟩ = some (.int .i64 b.sealed.head.size) := y5
   replace y6 : w3.cell? ⟨g, 10, none⟩ = some (.string b.sealed.head.root) := y6
   replace y7 : w3.cell? ⟨g, 11, none⟩ = some (.int .i64 b.sealed.head.taken) := y7
   replace y8 : w3.cell? ⟨g, 12, none⟩ = some (.string b.sealed.head.takenRoot) := y8
   have C := hU (sameSeal_any a1 a2 A3 A4 d1 d2 c3 c4 S b.sealed w3 RD1.out RD2.out (S3.out.ext HE.out).reads (S4.out.ext HE.out).reads hl1 hl2 l3 l4)
   simp only [sealV] at C
   clear kb
   go_wp2_with fail
   refine C.out.mono ?_
   rintro e w4 ⟨rfl, h1⟩
   have he := HE.out.next h1
   rw [← E.out]
   clear h1 rx fx y0 y1 y2 y3 y4 y5 y6 y7 y8
   go_wp2_with fail
   go_ret
   exact ⟨rfl, he⟩
set_option maxHeartbeats 8000000
def snCode (b : BrokerD) : Nat := if brokerB b then slCode b else 1
def snB (b : BrokerD) : BrokerD := if snCode b = 0 then slB b else noB
def snW (b : BrokerD) : List WriteD := if snCode b = 0 then [writeW b 1 (headText b.width (slHead b))] else []
theorem sn_bad {b : BrokerD} {k : Nat} (h : snCode b = k) (h0 : k ≠ 0) : snB b = noB ∧ snW b = [] := by
 have : ¬ snCode b = 0 := by omega
 exact ⟨by rw [snB, if_neg this], by rw [snW, if_neg this]⟩
theorem sn_good {b : BrokerD} (h : snCode b = 0) : snB b = slB b ∧ snW b = [writeW b 1 (headText b.width (slHead b))] := ⟨by rw [snB, if_pos h], by rw [snW, if_pos h]⟩
theorem sn_end {b : BrokerD} {k : Nat} {w w' : World} {e : Ending} {vw : Value} (h : snCode b = k) (h0 : k ≠ 0) (he : e = .returned (.tuple #[.agg #[.int .i64 0, .slice none 0 0, .slice none 0 0, .slice none 0 0, .int .i64 0, .slice none 0 0, .int .i64 0, .slice none 0 0, .int .i64 0, .int .i64 0, .string ⟨#[]⟩, .int .i64 0, .string ⟨#[]⟩], vw, .int .i64 (k : Int)])) (ho : w'.ownsRow w.heap.size 112 3 vw 0 []) (hx : Ext w w') : BrAns (snB b) (snW b) (snCode b) w e w' := by
 rw [(sn_bad h h0).1, (sn_bad h h0).2, h]; exact BrAns.bad he ho hx
theorem implSealNow_any (b : BrokerD) (A0 : Option Addr) (a0 : Nat) (A1 : Option Addr) (a1 : Nat) (A2 : Option Addr) (a2 : Nat) (A3 : Option Addr) (a3 : Nat) (A4 : Option Addr) (a4 : Nat) (w : World) (s : BArg AnyB w b A0 a0 A1 a1 A2 a2 A3 a3 A4 a4) (ok0 : ∀ x ∈ b.log.entries, x.Ok) (ok1 : ∀ x ∈ b.receipts, x.Ok) (hz : BSz b) :
 Calls Tryz.prog 38 #[.agg (brkV b A0 a0 A1 a1 A2 a2 A3 a3 A4 a4).toArray] w (BrAns (snB b) (snW b) (snCode b) w) := by
 have S0 := hU s; have O0 := hU ok0; have O1 := hU ok1; have HZ := hU hz
 have BOK := hU (fun (W : World) (hW : Ext w W) => implBrokerOk_any b A0 a0 A1 a1 A2 a2 A3 a3 A4 a4 W (s.ext hW).e (s.ext hW).r (s.ext hW).h (s.ext hW).u (s.ext hW).v ok0 ok1 hz.u hz.v)
 have CB : Hid (∀ (W : World) (hW : Ext w W), Calls Tryz.prog 89 #[.agg (brkV b A0 a0 A1 a1 A2 a2 A3 a3 A4 a4).toArray] W fun e w' => ∃ V0 v0 V1 v1 V2 v2 V3 v3 V4 v4, e = .returned (.agg (brkV b V0 v0 V1 v1 V2 v2 V3 v3 V4 v4).toArray) ∧ BRows W.heap.size w' b (.slice V0 b.log.entries.length v0) (.slice V1 b.receipts.length v1) (.slice V2 b.heads.length v2) (.slice V3 b.sealed.leaves.peaks.length v3) (.slice V4 b.sealed.taken.peaks.length v4) ∧ (∀ x, (Value.slice V3 b.sealed.leaves.peaks.length v3).ownBlock = some x → (Value.slice V4 b.sealed.taken.peaks.length v4).ownBlock ≠ some x) ∧ Ext W w') := hU (fun W hW => copyBroker_any b A0 a0 A1 a1 A2 a2 A3 a3 A4 a4 W (s.ext hW) hz)
 obtain ⟨cs, hcs⟩ : ∃ cs, cs = (brkV b A0 a0 A1 a1 A2 a2 A3 a3 A4 a4) := ⟨_, rfl⟩
 have HL13 := hU (show cs.length = 13 by rw [hcs]; rfl)
 rw [← hcs] at BOK CB
 rw [← hcs]
 clear s ok0 ok1 hz hcs
 obtain ⟨B1, B3, he⟩ := two_new w cs.toArray #[.int .i64 0, .slice none 0 0, .slice none 0 0, .slice none 0 0, .int .i64 0, .slice none 0 0, .int .i64 0, .slice none 0 0, .int .i64 0, .int .i64 0, .string ⟨#[]⟩, .int .i64 0, .string ⟨#[]⟩] 59 59
 obtain ⟨g1, hg1⟩ : ∃ g1, g1 = w.heap.size := ⟨_, rfl⟩
 obtain ⟨g3, hg3⟩ : ∃ g3, g3 = w.heap.size + 1 := ⟨_, rfl⟩
 go_enter Tryz.func38, Tryz.ntmps38
 go_upto_region 1 with fail
 obtain ⟨w3, hw3⟩ : ∃ w3, w3 = (w.alloc (.cells cs.toArray 59)).alloc (.cells #[.int .i64 0, .slice none 0 0, .slice none 0 0, .slice none 0 0, .int .i64 0, .slice none 0 0, .int .i64 0, .slice none 0 0, .int .i64 0, .int .i64 0, .string ⟨#[]⟩, .int .i64 0, .string ⟨#[]⟩] 59) := ⟨_, rfl⟩
 rw [← hw3] at B1 B3 he
 rw [← hw3]
 rw [← hg3] at B3
 rw [← hg1] at B1
 rw [← hg3, ← hg1]
 have h13 : g1 < g3 := by omega
 have hw : w.heap.size ≤ g3 := by omega
 clear hw3 hg1 hg3
 have RX := hU (Blk.range B1)
 go_wp2_with (refine wpList_load_mid rfl 59 _ rfl g1 0 rfl cs _ RX.out Tryz.underlying59 rfl (by rw [HL13.out]; kernel_rfl) ?_)
 refine (BOK.out _ he).mono ?_
 rintro e w4 ⟨rfl, h1⟩
 replace he := he.next h1; replace B1 := B1.ext h1; replace B3 := B3.ext h1
 clear h1 RX BOK
 cases pb : brokerB b
 · have E := hU (show snCode b = 1 by rw [snCode, pb]; rfl)
   have T4 := hU (B3.there 0 13 (by simp))
   obtain ⟨wz, hwz, hz, hx⟩ : ∃ wz, wz = w4.setCells g3 0 [.int .i64 0, .slice none 0 0, .slice none 0 0, .slice none 0 0, .int .i64 0, .slice none 0 0, .int .i64 0, .slice none 0 0, .int .i64 0, .int .i64 0, .string ⟨#[]⟩, .int .i64 0, .string ⟨#[]⟩] ∧ Blk wz g3 59 #[.int .i64 0, .slice none 0 0, .slice none 0 0, .slice none 0 0, .int .i64 0, .slice none 0 0, .int .i64 0, .slice none 0 0, .int .i64 0, .int .i64 0, .string ⟨#[]⟩, .int .i64 0, .string ⟨#[]⟩] ∧ Ext w wz := ⟨_, rfl, put_whole B3 [.int .i64 0, .slice none 0 0, .slice none 0 0, .slice none 0 0, .int .i64 0, .slice none 0 0, .int .i64 0, .slice none 0 0, .int .i64 0, .int .i64 0, .string ⟨#[]⟩, .int .i64 0, .string ⟨#[]⟩] rfl, ext_setCells hw [.int .i64 0, .slice none 0 0, .slice none 0 0, .slice none 0 0, .int .i64 0, .slice none 0 0, .int .i64 0, .slice none 0 0, .int .i64 0, .int .i64 0, .string ⟨#[]⟩, .int .i64 0, .string ⟨#[]⟩] 0 _ he⟩
   have HW := hU hwz; have Z4 := hU hz; have X4 := hU hx
   clear hwz hz hx B3 he
   go_wp2_with (refine wpList_store_list rfl 59 _ _ rfl rfl g3 0 [.int .i64 0, .slice none 0 0, .slice none 0 0, .slice none 0 0, .int .i64 0, .slice none 0 0, .int .i64 0, .slice none 0 0, .int .i64 0, .int .i64 0, .string ⟨#[]⟩, .int .i64 0, .string ⟨#[]⟩] rfl rfl T4.out (by kernel_rfl) (by rfl) ?_; rw [← HW.out])
   exact ret_brk rfl rfl Z4.out Tryz.underlying59 rfl (by kernel_rfl) rfl (sn_end E.out (by decide) rfl (World.ownsRow_nil _ _ _ _) X4.out)
 have HPB := hU pb
 have RX := hU (Blk.range B1)
 go_wp2_with (refine wpList_load_mid rfl 59 _ rfl g1 0 rfl cs _ RX.out Tryz.underlying59 rfl (by rw [HL13.out]; kernel_rfl) ?_)
 refine (CB.out _ he).mono ?_
 rintro e w5 ⟨V0, v0, V1, v1, V2, v2, V3, v3, V4, v4, rfl, rows, ap, h1⟩
 have hK := B3.lt
 obtain ⟨K, hKe⟩ : ∃ K, K = w4.heap.size := ⟨_, rfl⟩
 rw [← hKe] at rows hK
 have h45 := h1.size
 rw [← hKe] at h45
 replace he := he.next h1; replace B1 := B1.ext h1; replace B3 := B3.ext h1
 have AP := hU ap
 clear h1 RX CB ap hKe
 obtain ⟨ns, hns⟩ : ∃ ns, ns = brkV b V0 v0 V1 v1 V2 v2 V3 v3 V4 v4 := ⟨_, rfl⟩
 have HN13 := hU (show ns.length = 13 by rw [hns]; rfl)
 have HN1 := hU (show ns.all (·.oneCell') = true by rw [hns]; rfl)
 rw [← hns]
 have HNS := hU hns
 clear hns
 have KZ := Blk.new w5 59 #[.int .i64 0, .slice none 0 0, .slice none 0 0, .slice none 0 0, .int .i64 0, .slice none 0 0, .int .i64 0, .slice none 0 0, .int .i64 0, .int .i64 0, .string ⟨#[]⟩, .int .i64 0, .string ⟨#[]⟩]
 obtain ⟨w6, hw6, B7, hx⟩ : ∃ w6, w6 = (w5.alloc (.cells #[.int .i64 0, .slice none 0 0, .slice none 0 0, .slice none 0 0, .int .i64 0, .slice none 0 0, .int .i64 0, .slice none 0 0, .int .i64 0, .int .i64 0, .string ⟨#[]⟩, .int .i64 0, .string ⟨#[]⟩] 59)).setCells w5.heap.size 0 ns ∧ Blk w6 w5.heap.size 59 ns.toArray ∧ Ext w5 w6 := ⟨_, rfl, put_whole KZ ns (by rw [HN13.out]; rfl), ext_setCells (W := w5) (Nat.le_refl _) ns 0 _ (Ext.new (Below.refl _ _) _)⟩
 have T4 := hU (show World.there (w5.alloc (.cells #[.int .i64 0, .slice none 0 0, .slice none 0 0, .slice none 0 0, .int .i64 0, .slice none 0 0, .int .i64 0, .slice none 0 0, .int .i64 0, .int .i64 0, .string ⟨#[]⟩, .int .i64 0, .string ⟨#[]⟩] 59)) w5.heap.size 0 ns.length by rw [HN13.out]; exact KZ.there 0 13 (by simp)); have HW := hU hw6
 have hl6 := B7.lt
 replace he := he.next hx; replace B1 := B1.ext hx; replace B3 := B3.ext hx; replace rows := rows.ext hx
 have RW := hU rows
 clear hw6 hx KZ rows
 go_upto_region 4 with (refine wpList_store_list rfl 59 _ _ rfl rfl w5.heap.size 0 ns rfl rfl T4.out (by rw [HN13.out]; kernel_rfl) HN1.out ?_; rw [← HW.out])
 obtain ⟨g7, hg7⟩ : ∃ g7, g7 = w5.heap.size := ⟨_, rfl⟩
 rw [← hg7] at B7 hl6 h45
 rw [← hg7]
 clear T4 HW hg7 HN1
 have TK := hU (seal_any b g7 V0 v0 V1 v1 V2 v2 V3 v3 V4 v4 K w6 (by have h := B7; rw [HNS.out] at h; exact h) RW.out AP.out ⟨O0.out, O1.out, (broker_parts HPB.out).2.2.2.2.2.1, HZ.out⟩ HPB.out h45 (by omega))
 go_wp2_with fail
 refine TK.out.mono ?_
 rintro e w7 ⟨vw, rfl, hh⟩
 obtain ⟨cc, hcc⟩ : ∃ cc, cc = slCode b := ⟨_, rfl⟩
 have E := hU (show snCode b = cc by rw [snCode, HPB.out, hcc]; rfl)
 rw [← hcc] at hh
 rw [← hcc]
 clear hcc TK
 rcases hh with ⟨hne, h1⟩ | ⟨h0, vh, u1, u2, B8, rows, ap2, ow, hbl⟩
 · have z0 : ((cc : Int) == 0) = false := beq_false_of_ne (by omega)
   have HNE := hU hne
   replace he := he.next h1; replace B3 := B3.ext h1
   clear h1 B1 B7 hne
   have T4 := hU (B3.there 0 13 (by simp))
   obtain ⟨wz, hwz, hz, hx⟩ : ∃ wz, wz = w7.setCells g3 0 [.int .i64 0, .slice none 0 0, .slice none 0 0, .slice none 0 0, .int .i64 0, .slice none 0 0, .int .i64 0, .slice none 0 0, .int .i64 0, .int .i64 0, .string ⟨#[]⟩, .int .i64 0, .string ⟨#[]⟩] ∧ Blk wz g3 59 #[.int .i64 0, .slice none 0 0, .slice none 0 0, .slice none 0 0, .int .i64 0, .slice none 0 0, .int .i64 0, .slice none 0 0, .int .i64 0, .int .i64 0, .string ⟨#[]⟩, .int .i64 0, .string ⟨#[]⟩] ∧ Ext w wz := ⟨_, rfl, put_whole B3 [.int .i64 0, .slice none 0 0, .slice none 0 0, .slice none 0 0, .int .i64 0, .slice none 0 0, .int .i64 0, .slice none 0 0, .int .i64 0, .int .i64 0, .string ⟨#[]⟩, .int .i64 0, .string ⟨#[]⟩] rfl, ext_setCells hw [.int .i64 0, .slice none 0 0, .slice none 0 0, .slice none 0 0, .int .i64 0, .slice none 0 0, .int .i64 0, .slice none 0 0, .int .i64 0, .int .i64 0, .string ⟨#[]⟩, .int .i64 0, .string ⟨#[]⟩] 0 _ he⟩
   have HW := hU hwz; have Z4 := hU hz; have X4 := hU hx
   clear hwz hz hx B3 he
   go_wp2_with (refine wpList_store_list rfl 59 _ _ rfl rfl g3 0 [.int .i64 0, .slice none 0 0, .slice none 0 0, .slice none 0 0, .int .i64 0, .slice none 0 0, .int .i64 0, .slice none 0 0, .int .i64 0, .int .i64 0, .string ⟨#[]⟩, .int .i64 0, .string ⟨#[]⟩] rfl rfl T4.out (by kernel_rfl) (by rfl) ?_; rw [← HW.out])
   exact ret_brk rfl rfl Z4.out Tryz.underlying59 rfl (by kernel_rfl) rfl (sn_end E.out HNE.out rfl (World.ownsRow_nil _ _ _ _) X4.out)
 · subst h0
   replace he := below_trans he hbl (by omega)
   replace B3 := below_blk hbl B3 (by omega)
   obtain ⟨ms, hms⟩ : ∃ ms, ms = brkCs (slB b) (.slice V0 b.log.entries.length v0) (.slice V1 b.receipts.length v1) vh u1 u2 := ⟨_, rfl⟩
   obtain ⟨VH, vhc, rfl, _⟩ := ownsRow_form rows.h
   obtain ⟨VU, vuc, rfl, _⟩ := ownsRow_form rows.p
   obtain ⟨VV, vvc, rfl, _⟩ := ownsRow_form rows.q
   have AP2 := hU ap2
   have HM13 := hU (show ms.length = 13 by rw [hms]; rfl)
   have HM1 := hU (show ms.all (·.oneCell') = true by rw [hms]; rfl)
   rw [← hms] at B8
   have HMS := hU hms
   have RX := hU (Blk.range B8)
   obtain ⟨wz, hwz, hz, hx⟩ : ∃ wz, wz = w7.setCells g3 0 ms ∧ Blk wz g3 59 ms.toArray ∧ Ext w wz := ⟨_, rfl, put_whole B3 ms (by rw [HM13.out]; rfl), ext_setCells hw ms 0 _ he⟩
   have HW := hU hwz; have T4 := hU (show w7.there g3 0 ms.length by rw [HM13.out]; exact B3.there 0 13 (by simp)); have Z4 := hU hz; have X4 := hU hx
   have RZ : Hid (BRows w.heap.size wz (slB b) (.slice V0 b.log.entries.length v0) (.slice V1 b.receipts.length v1) (.slice VH (slB b).heads.length vhc) (.slice VU (slB b).sealed.leaves.peaks.length vuc) (.slice VV (slB b).sealed.taken.peaks.length vvc)) := hU (by rw [hwz]; exact ⟨row_far rows.e hK (by omega) ms 0, row_far rows.r hK (by omega) ms 0, row_far rows.h hK (by omega) ms 0, row_far rows.p hK (by omega) ms 0, row_far rows.q hK (by omega) ms 0⟩)
   have OZ : Hid (wz.ownsRow w.heap.size 112 3 vw 1 (writeW b 1 (headText b.width (slHead b))).cells) := hU (by rw [hwz]; exact row_far ow hK (by omega) ms 0)
   clear hwz hz hx rows ap2 ow hbl hms B1 B3 B7 B8 he
   go_wp2_with (first | (refine wpList_load_mid rfl 59 _ rfl g7 0 rfl ms _ RX.out Tryz.underlying59 rfl (by rw [HM13.out]; kernel_rfl) ?_) | (refine wpList_store_list rfl 59 _ _ rfl rfl g3 0 ms rfl rfl T4.out (by rw [HM13.out]; kernel_rfl) HM1.out ?_; rw [← HW.out]))
   refine ret_brk rfl rfl Z4.out Tryz.underlying59 rfl (by rw [List.size_toArray, HM13.out]; kernel_rfl) rfl ?_
   rw [(sn_good E.out).1, (sn_good E.out).2, E.out]
   exact ⟨_, _, _, _, _, vw, by rw [HMS.out]; rfl, RZ.out, AP2.out, by simpa using OZ.out, X4.out⟩
end Go.Proofs.YtlgdghpnfclgpaaGreat
