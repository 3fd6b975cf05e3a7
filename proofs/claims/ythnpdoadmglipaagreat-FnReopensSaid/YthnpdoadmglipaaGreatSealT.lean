/-
  SameC; BrkI; SealT: No condition.
-/
import Derived.Test.YthnpdoadmglipaaGreatHeadRead
import Derived.Test.YthnpdoadmglipaaGreatHeadsOks
import Derived.Test.YthnpdoadmglipaaGreatPartsB
import Derived.Test.YthnpdoadmglipaaGreatStoreL
import Derived.Test.YthnpdoadmglipaaGreatSealB
import Derived.Test.YthnpdoadmglipaaGreatSealP
namespace Go.Proofs.YthnpdoadmglipaaGreat
set_option maxHeartbeats 2000000
set_option maxRecDepth 100000
set_option linter.unusedSimpArgs false
open Go.RowKit
set_option linter.unusedVariables false
theorem sameRange_any (A A' : Option Addr) (c c' : Nat) (a b : RangeD) (w : World) (ha : ReadsL w w.heap.size sone 1 A a.peaks) (hb : ReadsL w w.heap.size sone 1 A' b.peaks) (hla : a.peaks.length ≤ 1048576) (hlb : b.peaks.length ≤ 1048576) :
 Calls Tryz.prog 109 #[.agg #[.int .i64 a.size, .slice A a.peaks.length c], .agg #[.int .i64 b.size, .slice A' b.peaks.length c']] w fun e w' => e = .returned (.bool (sameRangeB a b)) ∧ Ext w w' := by
 obtain ⟨B0, B1, he⟩ := two_blks w #[.int .i64 a.size, .slice A a.peaks.length c] #[.int .i64 b.size, .slice A' b.peaks.length c'] 31 31
 have He := hU he
 obtain ⟨r0, m0⟩ := B0.rules
 obtain ⟨r1, m1⟩ := B1.rules
 have CC := hU (slicesEqual_any A A' c c' a.peaks b.peaks _ (ha.ext he) (hb.ext he) hla hlb)
 clear B0 B1 he
 obtain ⟨fin, hfin⟩ : ∃ fin, fin = sameRangeB a b := ⟨_, rfl⟩
 rw [← hfin]
 by_cases p1 : a.size = b.size
 · have E := hU (show fin = peaksB a.peaks b.peaks by rw [hfin, sameRangeB, p1]; simp)
   have x1 : (a.size == b.size) = true := beq_iff_eq.2 p1
   clear hfin p1
   obtain ⟨La, hLa⟩ : ∃ La, La = a.peaks.length := ⟨_, rfl⟩
   obtain ⟨Lb, hLb⟩ : ∃ Lb, Lb = b.peaks.length := ⟨_, rfl⟩
   rw [← hLa] at r0 m0 r1 m1 CC He
   rw [← hLb] at r0 m0 r1 m1 CC He
   rw [← hLa, ← hLb]
   clear hLa hLb
   go_enter Tryz.func109, Tryz.ntmps109
   go_wp2_with fail
   refine CC.out.mono ?_
   rintro e w1 ⟨rfl, h1⟩
   rw [← E.out]
   have he := He.out.next h1
   clear h1
   go_wp2_with fail
   go_ret
   exact ⟨rfl, he⟩
 · have E := hU (show fin = false by rw [hfin, sameRangeB, beq_false_of_ne p1]; rfl)
   have x1 : (a.size == b.size) = false := beq_false_of_ne p1
   clear hfin
   go_enter Tryz.func109, Tryz.ntmps109
   go_wp2_with fail
   go_ret
   exact ⟨ret_bool E.out.symm, He.out⟩
def sealV (s : SealD) (A1 : Option Addr) (c1 : Nat) (A2 : Option Addr) (c2 : Nat) : List Value := [.int .i64 s.leaves.size, .slice A1 s.leaves.peaks.length c1, .int .i64 s.taken.size, .slice A2 s.taken.peaks.length c2, .int .i64 s.head.number, .int .i64 s.head.size, .string s.head.root, .int .i64 s.head.taken, .string s.head.takenRoot]
theorem sameSeal_any (A1 A2 A3 A4 : Option Addr) (c1 c2 c3 c4 : Nat) (s t : SealD) (w : World) (h1 : ReadsL w w.heap.size sone 1 A1 s.leaves.peaks) (h2 : ReadsL w w.heap.size sone 1 A2 s.taken.peaks) (h3 : ReadsL w w.heap.size sone 1 A3 t.leaves.peaks) (h4 : ReadsL w w.heap.size sone 1 A4 t.taken.peaks)
 (l1 : s.leaves.peaks.length ≤ 1048576) (l2 : s.taken.peaks.length ≤ 1048576) (l3 : t.leaves.peaks.length ≤ 1048576) (l4 : t.taken.peaks.length ≤ 1048576) :
 Calls Tryz.prog 68 #[.agg (sealV s A1 c1 A2 c2).toArray, .agg (sealV t A3 c3 A4 c4).toArray] w fun e w' => e = .returned (.bool (sameSealB s t)) ∧ Ext w w' := by
 obtain ⟨B0, B1, he⟩ := two_blks w (sealV s A1 c1 A2 c2).toArray (sealV t A3 c3 A4 c4).toArray 35 35
 have C1 := hU (sameRange_any A1 A3 c1 c3 s.leaves t.leaves _ (h1.ext he) (h3.ext he) l1 l3)
 have C2 := hU (fun (W : World) (hW : Ext w W) => sameRange_any A2 A4 c2 c4 s.taken t.taken W (h2.ext hW) (h4.ext hW) l2 l4)
 have K0 := hU B0; have K1 := hU B1; have He := hU he
 have HQ := HeadD.run_eql s.head t.head
 obtain ⟨r0, m0⟩ := B0.rules
 obtain ⟨r1, m1⟩ := B1.rules
 obtain ⟨fin, hfin⟩ : ∃ fin, fin = sameSealB s t := ⟨_, rfl⟩
 rw [← hfin]
 have F := hU (show fin = (sameRangeB s.leaves t.leaves && sameRangeB s.taken t.taken && s.head.eqb t.head) from hfin)
 clear B0 B1 he hfin h1 h2 h3 h4
 simp only [sealV] at C1 K0 K1 He r0 r1 m0 m1 ⊢
 cases p1 : sameRangeB s.leaves t.leaves
 · have E := hU (show fin = false by rw [F.out, p1]; rfl)
   rw [p1] at C1
   go_enter Tryz.func68, Tryz.ntmps68
   go_wp2_with fail
   refine C1.out.mono ?_
   rintro e w1 ⟨rfl, hx⟩
   have he := He.out.next hx
   clear hx
   go_wp2_with fail
   go_ret
   exact ⟨ret_bool E.out.symm, he⟩
 rw [p1] at C1
 cases p2 : sameRangeB s.taken t.taken
 · have E := hU (show fin = false by rw [F.out, p1, p2]; rfl)
   rw [p2] at C2
   go_enter Tryz.func68, Tryz.ntmps68
   go_wp2_with fail
   obtain ⟨g, hg⟩ : ∃ g, g = w.heap.size := ⟨_, rfl⟩
   rw [← hg] at K0 K1
   rw [← hg]
   clear r0 m0 r1 m1 hg
   refine C1.out.mono ?_
   rintro e w1 ⟨rfl, hx⟩
   have he := He.out.next hx
   have k0 := K0.out.ext hx; have k1 := K1.out.ext hx
   clear hx K0 K1
   obtain ⟨r0, m0⟩ := k0.rules
   obtain ⟨r1, m1⟩ := k1.rules
   go_wp2_with fail
   refine (C2.out _ he).mono ?_
   rintro e w2 ⟨rfl, hx⟩
   replace he := he.next hx
   clear hx r0 m0 r1 m1 k0 k1
   go_wp2_with fail
   go_ret
   exact ⟨ret_bool E.out.symm, he⟩
 rw [p2] at C2
 have E := hU (show fin = s.head.eqb t.head by rw [F.out, p1, p2]; rfl)
 go_enter Tryz.func68, Tryz.ntmps68
 go_wp2_with fail
 obtain ⟨g, hg⟩ : ∃ g, g = w.heap.size := ⟨_, rfl⟩
 rw [← hg] at K0 K1
 rw [← hg]
 clear r0 m0 r1 m1 hg
 refine C1.out.mono ?_
 rintro e w1 ⟨rfl, hx⟩
 have he := He.out.next hx
 have k0 := K0.out.ext hx; have k1 := K1.out.ext hx
 clear hx K0 K1
 obtain ⟨r0, m0⟩ := k0.rules
 obtain ⟨r1, m1⟩ := k1.rules
 go_wp2_with fail
 refine (C2.out _ he).mono ?_
 rintro e w2 ⟨rfl, hx⟩
 replace he := he.next hx
 clear r0 m0 r1 m1
 replace k0 := k0.ext hx; replace k1 := k1.ext hx
 clear hx
 obtain ⟨r0, m0⟩ := k0.rules
 obtain ⟨r1, m1⟩ := k1.rules
 go_wp2_with fail
 go_ret
 exact ⟨ret_bool E.out.symm, he⟩
set_option maxHeartbeats 4000000
theorem implBrokerOk_any (b : BrokerD) (A0 : Option Addr) (c0 : Nat) (A1 : Option Addr) (c1 : Nat) (A2 : Option Addr) (c2 : Nat) (A3 : Option Addr) (c3 : Nat) (A4 : Option Addr) (c4 : Nat) (w : World)
 (s0 : SlF AnyB EntryD.cells 5 w A0 b.log.entries c0) (s1 : SlF AnyB ReceiptD.cells 3 w A1 b.receipts c1) (s2 : SlF AnyB HeadD.cells 5 w A2 b.heads c2) (s3 : SlF AnyB sone 1 w A3 b.sealed.leaves.peaks c3) (s4 : SlF AnyB sone 1 w A4 b.sealed.taken.peaks c4) (ok0 : ∀ x ∈ b.log.entries, x.Ok) (ok1 : ∀ x ∈ b.receipts, x.Ok) (l3 : b.sealed.leaves.peaks.length ≤ 1048576) (l4 : b.sealed.taken.peaks.length ≤ 1048576) :
 Calls Tryz.prog 32 #[.agg (brkV b A0 c0 A1 c1 A2 c2 A3 c3 A4 c4).toArray] w fun e w' => e = .returned (.bool (brokerB b)) ∧ Ext w w' := by
 have K0 := hU (Blk.new w 37 (brkV b A0 c0 A1 c1 A2 c2 A3 c3 A4 c4).toArray)
 have He := hU (Ext.new (Below.refl w.heap.size w) (.cells (brkV b A0 c0 A1 c1 A2 c2 A3 c3 A4 c4).toArray 37))
 have BC : BrkC (w.alloc (.cells (brkV b A0 c0 A1 c1 A2 c2 A3 c3 A4 c4).toArray 37)) w.heap.size b A0 c0 A1 c1 A2 c2 := ⟨K0.out.lt, K0.out.cell 0, K0.out.cell 1, K0.out.cell 2, K0.out.cell 3⟩
 have PF := hU (partsFit_any w.heap.size b A0 c0 A1 c1 A2 c2 _ BC (s0.ext He.out) (s1.ext He.out) (s2.ext He.out) ok0 ok1)
 have S3 := hU s3; have S4 := hU s4
 have F := hU (brokerB_split b)
 clear BC s0 s1 s2 s3 s4
 obtain ⟨cs, hcs⟩ : ∃ cs, cs = brkV b A0 c0 A1 c1 A2 c2 A3 c3 A4 c4 := ⟨_, rfl⟩
 have hl : cs.length = 13 := by rw [hcs]; rfl
 rw [← hcs] at K0 He PF
 rw [← hcs]
 have HCS := hU hcs; have HL := hU hl
 clear hcs hl
 go_enter Tryz.func32, Tryz.ntmps32
 go_wp2_with fail
 obtain ⟨g, hg⟩ : ∃ g, g = w.heap.size := ⟨_, rfl⟩
 rw [← hg] at PF K0
 rw [← hg]
 have Hg := hU hg
 clear hg
 generalize w.alloc (.cells cs.toArray 37) = w1 at *
 refine PF.out.mono ?_
 rintro e w2 ⟨h1, h⟩
 have k0 := K0.out.ext h1
 have he := He.out.next h1
 rcases h with ⟨hb, rfl⟩ | ⟨hb, v1, v2, rfl, r1, r2, ap⟩
 · have E := hU (show brokerB b = false by rw [F.out, hb]; rfl)
   clear hb h1 K0 He
   simp only [sealNC, hz]
   go_wp2_with fail
   go_ret
   exact ⟨ret_bool E.out.symm, he.new _⟩
 · obtain ⟨a1, d1, hf1, _, rd1⟩ := r1.reads
   obtain ⟨a2, d2, hf2, _, rd2⟩ := r2.reads
   obtain ⟨S, hS⟩ : ∃ S, S = sealOfH b.width (leavesH b.width b.log.entries) (takenH b.width b.receipts) (lastH b.heads) := ⟨_, rfl⟩
   have hSh : S.head = lastH b.heads := by rw [hS]; rfl
   rw [← hS] at r1 r2 rd1 rd2 hf1 hf2
   rw [← hS, ← hSh, hf1, hf2]
   have hl1 : S.leaves.peaks.length ≤ 1048576 := by rw [hS]; exact (seal_lens hb).1
   have hl2 : S.taken.peaks.length ≤ 1048576 := by rw [hS]; exact (seal_lens hb).2
   have E := hU (show brokerB b = sameSealB S b.sealed by rw [F.out, hb, hS]; rfl)
   have KB := hU k0; have HE := hU he; have RD1 := hU rd1; have RD2 := hU rd2
   simp only [sealCs]
   clear hS hSh hb r1 r2 ap hf1 hf2 rd1 rd2 k0 he h1 K0 He PF
   go_upto_region 2 with fail
   have KX := Blk.new w2 35 #[.int .i64 S.leaves.size, .slice a1 S.leaves.peaks.length d1, .int .i64 S.taken.size, .slice a2 S.taken.peaks.length d2, .int .i64 S.head.number, .int .i64 S.head.size, .string S.head.root, .int .i64 S.head.taken, .string S.head.takenRoot]
   have hx := Ext.new (Below.refl w2.heap.size w2) (.cells #[.int .i64 S.leaves.size, .slice a1 S.leaves.peaks.length d1, .int .i64 S.taken.size, .slice a2 S.taken.peaks.length d2, .int .i64 S.head.number, .int .i64 S.head.size, .string S.head.root, .int .i64 S.head.taken, .string S.head.takenRoot] 35)
   replace KB := hU (KB.out.ext hx); replace HE := hU (HE.out.next hx); replace RD1 := hU (Reads.ext RD1.out hx); replace RD2 := hU (Reads.ext RD2.out hx)
   obtain ⟨q, hq⟩ : ∃ q, q = w2.heap.size := ⟨_, rfl⟩
   rw [← hq] at KX
   rw [← hq]
   clear hq hx
   generalize w2.alloc (.cells #[.int .i64 S.leaves.size, .slice a1 S.leaves.peaks.length d1, .int .i64 S.taken.size, .slice a2 S.taken.peaks.length d2, .int .i64 S.head.number, .int .i64 S.head.size, .string S.head.root, .int .i64 S.head.taken, .string S.head.takenRoot] 35) = w3 at *
   obtain ⟨rx, fx⟩ := KX.rules
   have kb := KB.out
   rw [HCS.out] at kb
   have y0 := kb.cell 4
   have y1 := kb.cell 5
   have y2 := kb.cell 6
   have y3 := kb.cell 7
   have y4 := kb.cell 8
   have y5 := kb.cell 9
   have y6 := kb.cell 10
   have y7 := kb.cell 11
   have y8 := kb.cell 12
   replace y0 : w3.cell? ⟨g, 4, none⟩ = some (.int .i64 b.sealed.leaves.size) := y0
   replace y1 : w3.cell? ⟨g, 5, none⟩ = some (.slice A3 b.sealed.leaves.peaks.length c3) := y1
   replace y2 : w3.cell? ⟨g, 6, none⟩ = some (.int .i64 b.sealed.taken.size) := y2
   replace y3 : w3.cell? ⟨g, 7, none⟩ = some (.slice A4 b.sealed.taken.peaks.length c4) := y3
   replace y4 : w3.cell? ⟨g, 8, none⟩ = some (.int .i64 b.sealed.head.number) := y4
   replace y5 : w3.cell? ⟨g, 9, none⟩ = some (.int .i64 b.sealed.head.size) := y5
   replace y6 : w3.cell? ⟨g, 10, none⟩ = some (.string b.sealed.head.root) := y6
   replace y7 : w3.cell? ⟨g, 11, none⟩ = some (.int .i64 b.sealed.head.taken) := y7
   replace y8 : w3.cell? ⟨g, 12, none⟩ = some (.string b.sealed.head.takenRoot) := y8
   have C := hU (sameSeal_any a1 a2 A3 A4 d1 d2 c3 c4 S b.sealed w3 RD1.out RD2.out (S3.out.ext HE.out).reads (S4.out.ext HE.out).reads hl1 hl2 l3 l4)
   simp only [sealV] at C
   clear kb
   go_wp2_with fail
   refine C.out.mono ?_
   rintro e w4 ⟨rfl, h1⟩
   have he := HE.out.next h1
   rw [← E.out]
   clear h1 rx fx y0 y1 y2 y3 y4 y5 y6 y7 y8
   go_wp2_with fail
   go_ret
   exact ⟨rfl, he⟩
def snCode (b : BrokerD) : Nat := if brokerB b then slCode b else 1
def snB (b : BrokerD) : BrokerD := if snCode b = 0 then slB b else noB
def snW (b : BrokerD) : List WriteD := if snCode b = 0 then [writeW b 1 (headText b.width (slHead b))] else []
theorem sn_bad {b : BrokerD} {k : Nat} (h : snCode b = k) (h0 : k ≠ 0) : snB b = noB ∧ snW b = [] := by
 have : ¬ snCode b = 0 := by omega
 exact ⟨by rw [snB, if_neg this], by rw [snW, if_neg this]⟩
theorem sn_good {b : BrokerD} (h : snCode b = 0) : snB b = slB b ∧ snW b = [writeW b 1 (headText b.width (slHead b))] := ⟨by rw [snB, if_pos h], by rw [snW, if_pos h]⟩
theorem sn_end {b : BrokerD} {k : Nat} {w w' : World} {e : Ending} {vw : Value} (h : snCode b = k) (h0 : k ≠ 0) (he : e = .returned (.tuple #[.agg #[.int .i64 0, .slice none 0 0, .slice none 0 0, .slice none 0 0, .int .i64 0, .slice none 0 0, .int .i64 0, .slice none 0 0, .int .i64 0, .int .i64 0, .string ⟨#[]⟩, .int .i64 0, .string ⟨#[]⟩], vw, .int .i64 (k : Int)])) (ho : w'.ownsRow w.heap.size 79 3 vw 0 []) (hx : Ext w w') : BrAns (snB b) (snW b) (snCode b) w e w' := by
 rw [(sn_bad h h0).1, (sn_bad h h0).2, h]; exact BrAns.bad he ho hx
end Go.Proofs.YthnpdoadmglipaaGreat
