/-
  BrkI; PubT: No condition.
-/
import Derived.Test.YtlgdghpnfclgpaaGreatPartsB
import Derived.Test.YtlgdghpnfclgpaaGreatSpecS
import Derived.Test.YtlgdghpnfclgpaaGreatDisk0
import Derived.Test.YtlgdghpnfclgpaaGreatPubB
import Derived.Test.YtlgdghpnfclgpaaGreatRecs
import Derived.Test.YtlgdghpnfclgpaaGreatLogs
namespace Go.Proofs.YtlgdghpnfclgpaaGreat
set_option maxHeartbeats 4000000
set_option maxRecDepth 100000
set_option linter.unusedSimpArgs false
open Go.RowKit
set_option linter.unusedVariables false
theorem implBrokerOk_any (b : BrokerD) (A0 : Option Addr) (c0 : Nat) (A1 : Option Addr) (c1 : Nat) (A2 : Option Addr) (c2 : Nat) (A3 : Option Addr) (c3 : Nat) (A4 : Option Addr) (c4 : Nat) (w : World)
 (s0 : SlF AnyB EntryD.cells 5 w A0 b.log.entries c0) (s1 : SlF AnyB ReceiptD.cells 3 w A1 b.receipts c1) (s2 : SlF AnyB HeadD.cells 5 w A2 b.heads c2) (s3 : SlF AnyB sone 1 w A3 b.sealed.leaves.peaks c3) (s4 : SlF AnyB sone 1 w A4 b.sealed.taken.peaks c4) (ok0 : ∀ x ∈ b.log.entries, x.Ok) (ok1 : ∀ x ∈ b.receipts, x.Ok) (l3 : b.sealed.leaves.peaks.length ≤ 1048576) (l4 : b.sealed.taken.peaks.length ≤ 1048576) :
 Calls Tryz.prog 51 #[.agg (brkV b A0 c0 A1 c1 A2 c2 A3 c3 A4 c4).toArray] w fun e w' => e = .returned (.bool (brokerB b)) ∧ Ext w w' := by
 have K0 := hU (Blk.new w 59 (brkV b A0 c0 A1 c1 A2 c2 A3 c3 A4 c4).toArray)
 have He := hU (Ext.new (Below.refl w.heap.size w) (.cells (brkV b A0 c0 A1 c1 A2 c2 A3 c3 A4 c4).toArray 59))
 have BC : BrkC (w.alloc (.cells (brkV b A0 c0 A1 c1 A2 c2 A3 c3 A4 c4).toArray 59)) w.heap.size b A0 c0 A1 c1 A2 c2 := ⟨K0.out.lt, K0.out.cell 0, K0.out.cell 1, K0.out.cell 2, K0.out.cell 3⟩
 have PF := hU (partsFit_any w.heap.size b A0 c0 A1 c1 A2 c2 _ BC (s0.ext He.out) (s1.ext He.out) (s2.ext He.out) ok0 ok1)
 have S3 := hU s3; have S4 := hU s4
 have F := hU (brokerB_split b)
 clear BC s0 s1 s2 s3 s4
 obtain ⟨cs, hcs⟩ : ∃ cs, cs = brkV b A0 c0 A1 c1 A2 c2 A3 c3 A4 c4 := ⟨_, rfl⟩
 have hl : cs.length = 13 := by rw [hcs]; rfl
 rw [← hcs] at K0 He PF
 rw [← hcs]
 have HCS := hU hcs; have HL := hU hl
 clear hcs hl
 go_enter Tryz.func51, Tryz.ntmps51
 go_wp2_with fail
 obtain ⟨g, hg⟩ : ∃ g, g = w.heap.size := ⟨_, rfl⟩
 rw [← hg] at PF K0
 rw [← hg]
 have Hg := hU hg
 clear hg
 generalize w.alloc (.cells cs.toArray 59) = w1 at *
 refine PF.out.mono ?_
 rintro e w2 ⟨h1, h⟩
 have k0 := K0.out.ext h1
 have he := He.out.next h1
 rcases h with ⟨hb, rfl⟩ | ⟨hb, v1, v2, rfl, r1, r2, ap⟩
 · have E := hU (show brokerB b = false by rw [F.out, hb]; rfl)
   clear hb h1 K0 He
   simp only [sealNC, hz]
   go_wp2_with fail
   go_ret
   exact ⟨ret_bool E.out.symm, he.new _⟩
 · obtain ⟨a1, d1, hf1, _, rd1⟩ := r1.reads
   obtain ⟨a2, d2, hf2, _, rd2⟩ := r2.reads
   obtain ⟨S, hS⟩ : ∃ S, S = sealOfH b.width (leavesH b.width b.log.entries) (takenH b.width b.receipts) (lastH b.heads) := ⟨_, rfl⟩
   have hSh : S.head = lastH b.heads := by rw [hS]; rfl
   rw [← hS] at r1 r2 rd1 rd2 hf1 hf2
   rw [← hS, ← hSh, hf1, hf2]
   have hl1 : S.leaves.peaks.length ≤ 1048576 := by rw [hS]; exact (seal_lens hb).1
   have hl2 : S.taken.peaks.length ≤ 1048576 := by rw [hS]; exact (seal_lens hb).2
   have E := hU (show brokerB b = sameSealB S b.sealed by rw [F.out, hb, hS]; rfl)
   have KB := hU k0; have HE := hU he; have RD1 := hU rd1; have RD2 := hU rd2
   simp only [sealCs]
   clear hS hSh hb r1 r2 ap hf1 hf2 rd1 rd2 k0 he h1 K0 He PF
   go_upto_region 2 with fail
   have KX := Blk.new w2 57 #[.int .i64 S.leaves.size, .slice a1 S.leaves.peaks.length d1, .int .i64 S.taken.size, .slice a2 S.taken.peaks.length d2, .int .i64 S.head.number, .int .i64 S.head.size, .string S.head.root, .int .i64 S.head.taken, .string S.head.takenRoot]
   have hx := Ext.new (Below.refl w2.heap.size w2) (.cells #[.int .i64 S.leaves.size, .slice a1 S.leaves.peaks.length d1, .int .i64 S.taken.size, .slice a2 S.taken.peaks.length d2, .int .i64 S.head.number, .int .i64 S.head.size, .string S.head.root, .int .i64 S.head.taken, .string S.head.takenRoot] 57)
   replace KB := hU (KB.out.ext hx); replace HE := hU (HE.out.next hx); replace RD1 := hU (Reads.ext RD1.out hx); replace RD2 := hU (Reads.ext RD2.out hx)
   obtain ⟨q, hq⟩ : ∃ q, q = w2.heap.size := ⟨_, rfl⟩
   rw [← hq] at KX
   rw [← hq]
   clear hq hx
   generalize w2.alloc (.cells #[.int .i64 S.leaves.size, .slice a1 S.leaves.peaks.length d1, .int .i64 S.taken.size, .slice a2 S.taken.peaks.length d2, .int .i64 S.head.number, .int .i64 S.head.size, .string S.head.root, .int .i64 S.head.taken, .string S.head.takenRoot] 57) = w3 at *
   obtain ⟨rx, fx⟩ := KX.rules
   have kb := KB.out
   rw [HCS.out] at kb
   have y0 := kb.cell 4
   have y1 := kb.cell 5
   have y2 := kb.cell 6
   have y3 := kb.cell 7
   have y4 := kb.cell 8
   have y5 := kb.cell 9
   have y6 := kb.cell 10
   have y7 := kb.cell 11
   have y8 := kb.cell 12
   replace y0 : w3.cell? ⟨g, 4, none⟩ = some (.int .i64 b.sealed.leaves.size) := y0
   replace y1 : w3.cell? ⟨g, 5, none⟩ = some (.slice A3 b.sealed.leaves.peaks.length c3) := y1
   replace y2 : w3.cell? ⟨g, 6, none⟩ = some (.int .i64 b.sealed.taken.size) := y2
   replace y3 : w3.cell? ⟨g, 7, none⟩ = some (.slice A4 b.sealed.taken.peaks.length c4) := y3
   replace y4 : w3.cell? ⟨g, 8, none⟩ = some (.int .i64 b.sealed.head.number) := y4
   replace y5 : w3.cell? ⟨g, 9, none⟩ = some (.int .i64 b.sealed.head.size) := y5
   replace y6 : w3.cell? ⟨g, 10, none⟩ = some (.string b.sealed.head.root) := y6
   replace y7 : w3.cell? ⟨g, 11, none⟩ = some (.int .i64 b.sealed.head.taken) := y7
   replace y8 : w3.cell? ⟨g, 12, none⟩ = some (.string b.sealed.head.takenRoot) := y8
   have C := hU (sameSeal_any a1 a2 A3 A4 d1 d2 c3 c4 S b.sealed w3 RD1.out RD2.out (S3.out.ext HE.out).reads (S4.out.ext HE.out).reads hl1 hl2 l3 l4)
   simp only [sealV] at C
   clear kb
   go_wp2_with fail
   refine C.out.mono ?_
   rintro e w4 ⟨rfl, h1⟩
   have he := HE.out.next h1
   rw [← E.out]
   clear h1 rx fx y0 y1 y2 y3 y4 y5 y6 y7 y8
   go_wp2_with fail
   go_ret
   exact ⟨rfl, he⟩
set_option maxHeartbeats 8000000
theorem implPublish_any (b : BrokerD) (d : EntryD) (A0 : Option Addr) (a0 : Nat) (A1 : Option Addr) (a1 : Nat) (A2 : Option Addr) (a2 : Nat) (A3 : Option Addr) (a3 : Nat) (A4 : Option Addr) (a4 : Nat) (w : World) (s : BArg AnyB w b A0 a0 A1 a1 A2 a2 A3 a3 A4 a4) (ok0 : ∀ x ∈ b.log.entries, x.Ok) (ok1 : ∀ x ∈ b.receipts, x.Ok) (hz : BSz b) (hd : d.Ok) :
 Calls Tryz.prog 36 #[.agg (brkV b A0 a0 A1 a1 A2 a2 A3 a3 A4 a4).toArray, .string d.topic, .int .i64 d.time, .string d.key, .string d.body] w (BrAns4 (pbB b d) (pbW b d) (pbL b d) (pbCode b d) w) := by
 have S0 := hU s; have O0 := hU ok0; have O1 := hU ok1; have HZ := hU hz; have HD := hU hd
 have BOK := hU (fun (W : World) (hW : Ext w W) => implBrokerOk_any b A0 a0 A1 a1 A2 a2 A3 a3 A4 a4 W (s.ext hW).e (s.ext hW).r (s.ext hW).h (s.ext hW).u (s.ext hW).v ok0 ok1 hz.u hz.v)
 have CB : Hid (∀ (W : World) (hW : Ext w W), Calls Tryz.prog 89 #[.agg (brkV b A0 a0 A1 a1 A2 a2 A3 a3 A4 a4).toArray] W fun e w' => ∃ V0 v0 V1 v1 V2 v2 V3 v3 V4 v4, e = .returned (.agg (brkV b V0 v0 V1 v1 V2 v2 V3 v3 V4 v4).toArray) ∧ BRows W.heap.size w' b (.slice V0 b.log.entries.length v0) (.slice V1 b.receipts.length v1) (.slice V2 b.heads.length v2) (.slice V3 b.sealed.leaves.peaks.length v3) (.slice V4 b.sealed.taken.peaks.length v4) ∧ (∀ x, (Value.slice V3 b.sealed.leaves.peaks.length v3).ownBlock = some x → (Value.slice V4 b.sealed.taken.peaks.length v4).ownBlock ≠ some x) ∧ Ext W w') := hU (fun W hW => copyBroker_any b A0 a0 A1 a1 A2 a2 A3 a3 A4 a4 W (s.ext hW) hz)
 obtain ⟨cs, hcs⟩ : ∃ cs, cs = (brkV b A0 a0 A1 a1 A2 a2 A3 a3 A4 a4) := ⟨_, rfl⟩
 have HL13 := hU (show cs.length = 13 by rw [hcs]; rfl)
 rw [← hcs] at BOK CB
 rw [← hcs]
 clear s ok0 ok1 hz hd hcs
 obtain ⟨B1, B3, he⟩ := two_new w cs.toArray #[.int .i64 0, .slice none 0 0, .slice none 0 0, .slice none 0 0, .int .i64 0, .slice none 0 0, .int .i64 0, .slice none 0 0, .int .i64 0, .int .i64 0, .string ⟨#[]⟩, .int .i64 0, .string ⟨#[]⟩] 59 59
 obtain ⟨g1, hg1⟩ : ∃ g1, g1 = w.heap.size := ⟨_, rfl⟩
 obtain ⟨g3, hg3⟩ : ∃ g3, g3 = w.heap.size + 1 := ⟨_, rfl⟩
 go_enter Tryz.func36, Tryz.ntmps36
 go_upto_region 1 with fail
 obtain ⟨w3, hw3⟩ : ∃ w3, w3 = (w.alloc (.cells cs.toArray 59)).alloc (.cells #[.int .i64 0, .slice none 0 0, .slice none 0 0, .slice none 0 0, .int .i64 0, .slice none 0 0, .int .i64 0, .slice none 0 0, .int .i64 0, .int .i64 0, .string ⟨#[]⟩, .int .i64 0, .string ⟨#[]⟩] 59) := ⟨_, rfl⟩
 rw [← hw3] at B1 B3 he
 rw [← hw3]
 rw [← hg3] at B3
 rw [← hg1] at B1
 rw [← hg3, ← hg1]
 have h13 : g1 < g3 := by omega
 have hw : w.heap.size ≤ g3 := by omega
 clear hw3 hg1 hg3
 have RX := hU (Blk.range B1)
 go_wp2_with (refine wpList_load_mid rfl 59 _ rfl g1 0 rfl cs _ RX.out Tryz.underlying59 rfl (by rw [HL13.out]; kernel_rfl) ?_)
 refine (BOK.out _ he).mono ?_
 rintro e w4 ⟨rfl, h1⟩
 replace he := he.next h1; replace B1 := B1.ext h1; replace B3 := B3.ext h1
 clear h1 RX BOK
 cases pb : brokerB b
 · have E := hU (show pbCode b d = 1 by rw [pbCode, pb]; rfl)
   have T4 := hU (B3.there 0 13 (by simp))
   obtain ⟨wz, hwz, hz, hx⟩ : ∃ wz, wz = w4.setCells g3 0 [.int .i64 0, .slice none 0 0, .slice none 0 0, .slice none 0 0, .int .i64 0, .slice none 0 0, .int .i64 0, .slice none 0 0, .int .i64 0, .int .i64 0, .string ⟨#[]⟩, .int .i64 0, .string ⟨#[]⟩] ∧ Blk wz g3 59 #[.int .i64 0, .slice none 0 0, .slice none 0 0, .slice none 0 0, .int .i64 0, .slice none 0 0, .int .i64 0, .slice none 0 0, .int .i64 0, .int .i64 0, .string ⟨#[]⟩, .int .i64 0, .string ⟨#[]⟩] ∧ Ext w wz := ⟨_, rfl, put_whole B3 [.int .i64 0, .slice none 0 0, .slice none 0 0, .slice none 0 0, .int .i64 0, .slice none 0 0, .int .i64 0, .slice none 0 0, .int .i64 0, .int .i64 0, .string ⟨#[]⟩, .int .i64 0, .string ⟨#[]⟩] rfl, ext_setCells hw [.int .i64 0, .slice none 0 0, .slice none 0 0, .slice none 0 0, .int .i64 0, .slice none 0 0, .int .i64 0, .slice none 0 0, .int .i64 0, .int .i64 0, .string ⟨#[]⟩, .int .i64 0, .string ⟨#[]⟩] 0 _ he⟩
   have HW := hU hwz; have Z4 := hU hz; have X4 := hU hx
   clear hwz hz hx B3 he
   go_wp2_with (refine wpList_store_list rfl 59 _ _ rfl rfl g3 0 [.int .i64 0, .slice none 0 0, .slice none 0 0, .slice none 0 0, .int .i64 0, .slice none 0 0, .int .i64 0, .slice none 0 0, .int .i64 0, .int .i64 0, .string ⟨#[]⟩, .int .i64 0, .string ⟨#[]⟩] rfl rfl T4.out (by kernel_rfl) (by rfl) ?_; rw [← HW.out])
   exact ret_cttt (s0 := 10) (s1 := 11) (s2 := 12) (s3 := 13) rfl rfl Z4.out Tryz.underlying59 rfl (by kernel_rfl) rfl (pb_end E.out (by decide) rfl (World.ownsRow_nil _ _ _ _) X4.out)
 have HPB := hU pb
 have RX := hU (Blk.range B1)
 go_wp2_with (refine wpList_load_mid rfl 59 _ rfl g1 0 rfl cs _ RX.out Tryz.underlying59 rfl (by rw [HL13.out]; kernel_rfl) ?_)
 refine (CB.out _ he).mono ?_
 rintro e w5 ⟨V0, v0, V1, v1, V2, v2, V3, v3, V4, v4, rfl, rows, ap, h1⟩
 have hK := B3.lt
 obtain ⟨K, hKe⟩ : ∃ K, K = w4.heap.size := ⟨_, rfl⟩
 rw [← hKe] at rows hK
 have h45 := h1.size
 rw [← hKe] at h45
 replace he := he.next h1; replace B1 := B1.ext h1; replace B3 := B3.ext h1
 have AP := hU ap
 clear h1 RX CB ap hKe
 obtain ⟨ns, hns⟩ : ∃ ns, ns = brkV b V0 v0 V1 v1 V2 v2 V3 v3 V4 v4 := ⟨_, rfl⟩
 have HN13 := hU (show ns.length = 13 by rw [hns]; rfl)
 have HN1 := hU (show ns.all (·.oneCell') = true by rw [hns]; rfl)
 rw [← hns]
 have HNS := hU hns
 clear hns
 have KZ := Blk.new w5 59 #[.int .i64 0, .slice none 0 0, .slice none 0 0, .slice none 0 0, .int .i64 0, .slice none 0 0, .int .i64 0, .slice none 0 0, .int .i64 0, .int .i64 0, .string ⟨#[]⟩, .int .i64 0, .string ⟨#[]⟩]
 obtain ⟨w6, hw6, B7, hx⟩ : ∃ w6, w6 = (w5.alloc (.cells #[.int .i64 0, .slice none 0 0, .slice none 0 0, .slice none 0 0, .int .i64 0, .slice none 0 0, .int .i64 0, .slice none 0 0, .int .i64 0, .int .i64 0, .string ⟨#[]⟩, .int .i64 0, .string ⟨#[]⟩] 59)).setCells w5.heap.size 0 ns ∧ Blk w6 w5.heap.size 59 ns.toArray ∧ Ext w5 w6 := ⟨_, rfl, put_whole KZ ns (by rw [HN13.out]; rfl), ext_setCells (W := w5) (Nat.le_refl _) ns 0 _ (Ext.new (Below.refl _ _) _)⟩
 have T4 := hU (show World.there (w5.alloc (.cells #[.int .i64 0, .slice none 0 0, .slice none 0 0, .slice none 0 0, .int .i64 0, .slice none 0 0, .int .i64 0, .slice none 0 0, .int .i64 0, .int .i64 0, .string ⟨#[]⟩, .int .i64 0, .string ⟨#[]⟩] 59)) w5.heap.size 0 ns.length by rw [HN13.out]; exact KZ.there 0 13 (by simp)); have HW := hU hw6
 have hl6 := B7.lt
 replace he := he.next hx; replace B1 := B1.ext hx; replace B3 := B3.ext hx; replace rows := rows.ext hx
 have RW := hU rows
 clear hw6 hx KZ rows
 go_upto_region 4 with (refine wpList_store_list rfl 59 _ _ rfl rfl w5.heap.size 0 ns rfl rfl T4.out (by rw [HN13.out]; kernel_rfl) HN1.out ?_; rw [← HW.out])
 obtain ⟨g7, hg7⟩ : ∃ g7, g7 = w5.heap.size := ⟨_, rfl⟩
 rw [← hg7] at B7 hl6 h45
 rw [← hg7]
 clear T4 HW hg7 HN1
 have TK := hU (publish_any b d g7 V0 v0 V1 v1 V2 v2 V3 v3 V4 v4 K w6 (by have h := B7; rw [HNS.out] at h; exact h) RW.out ⟨O0.out, O1.out, (broker_parts HPB.out).2.2.2.2.2.1, HZ.out⟩ HD.out h45 (by omega))
 go_wp2_with fail
 refine TK.out.mono ?_
 rintro e w7 ⟨vw, hh⟩
 clear TK
 rcases hh with ⟨hne, rfl, h1⟩ | ⟨h0, rfl, ve, B8, rows, ow, hbl⟩
 · obtain ⟨cc, hcc⟩ : ∃ cc, cc = adCode b.log.entries d := ⟨_, rfl⟩
   have E := hU (show pbCode b d = cc by rw [pbCode, HPB.out, hcc]; rfl)
   rw [← hcc] at hne
   rw [← hcc]
   clear hcc
   have z0 : ((cc : Int) != 0) = true := by rw [bne_iff_ne]; omega
   have HNE := hU hne
   replace he := he.next h1; replace B3 := B3.ext h1
   clear h1 B1 B7 hne
   have T4 := hU (B3.there 0 13 (by simp))
   obtain ⟨wz, hwz, hz, hx⟩ : ∃ wz, wz = w7.setCells g3 0 [.int .i64 0, .slice none 0 0, .slice none 0 0, .slice none 0 0, .int .i64 0, .slice none 0 0, .int .i64 0, .slice none 0 0, .int .i64 0, .int .i64 0, .string ⟨#[]⟩, .int .i64 0, .string ⟨#[]⟩] ∧ Blk wz g3 59 #[.int .i64 0, .slice none 0 0, .slice none 0 0, .slice none 0 0, .int .i64 0, .slice none 0 0, .int .i64 0, .slice none 0 0, .int .i64 0, .int .i64 0, .string ⟨#[]⟩, .int .i64 0, .string ⟨#[]⟩] ∧ Ext w wz := ⟨_, rfl, put_whole B3 [.int .i64 0, .slice none 0 0, .slice none 0 0, .slice none 0 0, .int .i64 0, .slice none 0 0, .int .i64 0, .slice none 0 0, .int .i64 0, .int .i64 0, .string ⟨#[]⟩, .int .i64 0, .string ⟨#[]⟩] rfl, ext_setCells hw [.int .i64 0, .slice none 0 0, .slice none 0 0, .slice none 0 0, .int .i64 0, .slice none 0 0, .int .i64 0, .slice none 0 0, .int .i64 0, .int .i64 0, .string ⟨#[]⟩, .int .i64 0, .string ⟨#[]⟩] 0 _ he⟩
   have HW := hU hwz; have Z4 := hU hz; have X4 := hU hx
   clear hwz hz hx B3 he
   go_wp2_with (refine wpList_store_list rfl 59 _ _ rfl rfl g3 0 [.int .i64 0, .slice none 0 0, .slice none 0 0, .slice none 0 0, .int .i64 0, .slice none 0 0, .int .i64 0, .slice none 0 0, .int .i64 0, .int .i64 0, .string ⟨#[]⟩, .int .i64 0, .string ⟨#[]⟩] rfl rfl T4.out (by kernel_rfl) (by rfl) ?_; rw [← HW.out])
   exact ret_cttt (s0 := 10) (s1 := 11) (s2 := 12) (s3 := 13) rfl rfl Z4.out Tryz.underlying59 rfl (by kernel_rfl) rfl (pb_end E.out HNE.out rfl (World.ownsRow_nil _ _ _ _) X4.out)
 · have E := hU (show pbCode b d = 0 by rw [pbCode, HPB.out]; exact h0)
   clear h0
   replace he := below_trans he hbl (by omega)
   replace B3 := below_blk hbl B3 (by omega)
   obtain ⟨nl, hnl⟩ : ∃ nl, nl = b.log.entries.length := ⟨_, rfl⟩
   rw [← hnl]
   have HNL := hU hnl
   clear hnl
   obtain ⟨ms, hms⟩ : ∃ ms, ms = brkCs (pbB0 b d) ve (.slice V1 b.receipts.length v1) (.slice V2 b.heads.length v2) (.slice V3 b.sealed.leaves.peaks.length v3) (.slice V4 b.sealed.taken.peaks.length v4) := ⟨_, rfl⟩
   obtain ⟨VE, vec, rfl, _⟩ := ownsRow_form rows.e
   have HM13 := hU (show ms.length = 13 by rw [hms]; rfl)
   have HM1 := hU (show ms.all (·.oneCell') = true by rw [hms]; rfl)
   rw [← hms] at B8
   have HMS := hU hms
   have RX := hU (Blk.range B8)
   obtain ⟨wz, hwz, hz, hx⟩ : ∃ wz, wz = w7.setCells g3 0 ms ∧ Blk wz g3 59 ms.toArray ∧ Ext w wz := ⟨_, rfl, put_whole B3 ms (by rw [HM13.out]; rfl), ext_setCells hw ms 0 _ he⟩
   have HW := hU hwz; have T4 := hU (show w7.there g3 0 ms.length by rw [HM13.out]; exact B3.there 0 13 (by simp)); have Z4 := hU hz; have X4 := hU hx
   have RZ : Hid (BRows w.heap.size wz (pbB0 b d) (.slice VE (pbB0 b d).log.entries.length vec) (.slice V1 b.receipts.length v1) (.slice V2 b.heads.length v2) (.slice V3 b.sealed.leaves.peaks.length v3) (.slice V4 b.sealed.taken.peaks.length v4)) := hU (by rw [hwz]; exact ⟨row_far rows.e hK (by omega) ms 0, row_far rows.r hK (by omega) ms 0, row_far rows.h hK (by omega) ms 0, row_far rows.p hK (by omega) ms 0, row_far rows.q hK (by omega) ms 0⟩)
   have OZ : Hid (wz.ownsRow w.heap.size 112 3 vw 1 (writeW b 0 (leafText (pbNew b d))).cells) := hU (by rw [hwz]; exact row_far ow hK (by omega) ms 0)
   clear hwz hz hx rows ow hbl hms B1 B3 B7 B8 he
   go_wp2_with (first | (refine wpList_load_mid rfl 59 _ rfl g7 0 rfl ms _ RX.out Tryz.underlying59 rfl (by rw [HM13.out]; kernel_rfl) ?_) | (refine wpList_store_list rfl 59 _ _ rfl rfl g3 0 ms rfl rfl T4.out (by rw [HM13.out]; kernel_rfl) HM1.out ?_; rw [← HW.out]))
   refine ret_cttt (s0 := 10) (s1 := 11) (s2 := 12) (s3 := 13) rfl rfl Z4.out Tryz.underlying59 rfl (by rw [List.size_toArray, HM13.out]; kernel_rfl) rfl ?_
   rw [(pb_good E.out).1, (pb_good E.out).2.1, (pb_good E.out).2.2, E.out, ← HNL.out]
   exact ⟨_, _, _, _, _, vw, by rw [HMS.out]; rfl, RZ.out, AP.out, by simpa using OZ.out, X4.out⟩
end Go.Proofs.YtlgdghpnfclgpaaGreat
