/-
  SpFetch: No condition.
-/
import Derived.Test.YtlgdghpnfclgpaaGreatRoot6
import Derived.Test.YtlgdghpnfclgpaaGreatSpFetI
import Derived.Test.YtlgdghpnfclgpaaGreatBrkS
namespace Go.Proofs.YtlgdghpnfclgpaaGreat
set_option maxHeartbeats 4000000
set_option maxRecDepth 100000
set_option linter.unusedSimpArgs false
open Go.RowKit
set_option linter.unusedVariables false
theorem specFetch_any (b : BrokerD) (t : ByteArray) (ix n : Int) (A0 : Option Addr) (a0 : Nat) (A1 : Option Addr) (a1 : Nat) (A2 : Option Addr) (a2 : Nat) (A3 : Option Addr) (a3 : Nat) (A4 : Option Addr) (a4 : Nat) (w : World) (s : BArg AnyB w b A0 a0 A1 a1 A2 a2 A3 a3 A4 a4) (ok0 : ∀ x ∈ b.log.entries, x.Ok) (ok1 : ∀ x ∈ b.receipts, x.Ok) (hz : BSz b) :
 Calls Tryz.prog 15 #[.agg (brkV b A0 a0 A1 a1 A2 a2 A3 a3 A4 a4).toArray, .string t, .int .i64 ix, .int .i64 n] w (FtAns (ftE b t ix n) (ftL b t ix n) (ftP b t ix n) (ftCode b t ix n) w) := by
 have BOK := hU (fun (W : World) (hW : Ext w W) => specBrokerOk_any b A0 a0 A1 a1 A2 a2 A3 a3 A4 a4 W (s.ext hW).e (s.ext hW).r (s.ext hW).h (s.ext hW).u (s.ext hW).v ok0 ok1 hz.u hz.v)
 have FT := hU (fun (hB : brokerB b = true) (W : World) (hW : Ext w W) => l12Fetch_any b t ix n A0 a0 A1 a1 A2 a2 A3 a3 A4 a4 W (s.ext hW).e (s.ext hW).h ok0 hB)
 obtain ⟨cs, hcs⟩ : ∃ cs, cs = (brkV b A0 a0 A1 a1 A2 a2 A3 a3 A4 a4) := ⟨_, rfl⟩
 have HL13 := hU (show cs.length = 13 by rw [hcs]; rfl)
 rw [← hcs] at BOK FT
 rw [← hcs]
 clear s ok0 ok1 hz hcs
 obtain ⟨B1, B2, he⟩ := two_new w cs.toArray #[.string ⟨#[]⟩, .int .i64 0, .int .i64 0, .string ⟨#[]⟩, .string ⟨#[]⟩] 59 46
 obtain ⟨g1, hg1⟩ : ∃ g1, g1 = w.heap.size := ⟨_, rfl⟩
 obtain ⟨g2, hg2⟩ : ∃ g2, g2 = w.heap.size + 1 := ⟨_, rfl⟩
 go_enter Tryz.func15, Tryz.ntmps15
 go_upto_region 1 with fail
 obtain ⟨w3, hw3⟩ : ∃ w3, w3 = (w.alloc (.cells cs.toArray 59)).alloc (.cells #[.string ⟨#[]⟩, .int .i64 0, .int .i64 0, .string ⟨#[]⟩, .string ⟨#[]⟩] 46) := ⟨_, rfl⟩
 rw [← hw3] at B1 B2 he
 rw [← hw3]
 rw [← hg2] at B2
 rw [← hg1] at B1
 rw [← hg2, ← hg1]
 have hw : w.heap.size ≤ g2 := by omega
 clear hw3 hg1 hg2
 have RX := hU (Blk.range B1)
 go_wp2_with (refine wpList_load_mid rfl 59 _ rfl g1 0 rfl cs _ RX.out Tryz.underlying59 rfl (by rw [HL13.out]; kernel_rfl) ?_)
 refine (BOK.out _ he).mono ?_
 rintro e w4 ⟨rfl, h1⟩
 replace he := he.next h1; replace B1 := B1.ext h1; replace B2 := B2.ext h1
 clear h1 RX BOK
 cases pb : brokerB b
 · have PB := hU pb
   have KS := B2.alloc (.cells #[] 9)
   have X4 := hU (KS.put 0 [.string ⟨#[]⟩, .int .i64 0, .int .i64 0, .string ⟨#[]⟩, .string ⟨#[]⟩] #[.string ⟨#[]⟩, .int .i64 0, .int .i64 0, .string ⟨#[]⟩, .string ⟨#[]⟩] (by simp) rfl)
   have X5 := hU (ext_setCells (W := w) hw [.string ⟨#[]⟩, .int .i64 0, .int .i64 0, .string ⟨#[]⟩, .string ⟨#[]⟩] 0 _ (he.new (.cells #[] 9)))
   have X6 := hU (show RowT w.heap.size ((w4.alloc (.cells #[] 9)).setCells g2 0 [.string ⟨#[]⟩, .int .i64 0, .int .i64 0, .string ⟨#[]⟩, .string ⟨#[]⟩]) (.slice (some ⟨w4.heap.size, 0, none⟩) 0 0) [] from row_away (ownsRow_empty w4 9 1) B2.lt he.size [.string ⟨#[]⟩, .int .i64 0, .int .i64 0, .string ⟨#[]⟩, .string ⟨#[]⟩] 0)
   obtain ⟨r0, m0⟩ := KS.rules
   clear FT B1 B2 he pb KS
   go_wp2_with fail
   exact ret_en3 rfl rfl X4.out Tryz.underlying46 rfl (by kernel_rfl) rfl (ft_end PB.out rfl X6.out X5.out)
 have FE := hU (ft_eqs (t := t) (ix := ix) (n := n) pb)
 have F := hU (FT.out pb w4 he)
 have RX := hU (Blk.range B1)
 have hg2 := B2.lt
 have hs4 := he.size
 clear FT pb B1
 go_wp2_with (refine wpList_load_mid rfl 59 _ rfl g1 0 rfl cs _ RX.out Tryz.underlying59 rfl (by rw [HL13.out]; kernel_rfl) ?_)
 refine F.out.mono ?_
 rintro e w5 ⟨v, d, hd, rfl, hr, h1⟩
 have HD := hU hd
 replace B2 := B2.ext h1; replace he := he.next h1
 have X4 := hU (B2.put 0 [.string d.topic, .int .i64 d.index, .int .i64 d.time, .string d.key, .string d.body] #[.string d.topic, .int .i64 d.index, .int .i64 d.time, .string d.key, .string d.body] (by simp) rfl)
 have X5 := hU (ext_setCells (W := w) hw [.string d.topic, .int .i64 d.index, .int .i64 d.time, .string d.key, .string d.body] 0 _ he)
 have X6 := hU (row_away (B := w.heap.size) hr hg2 hs4 [.string d.topic, .int .i64 d.index, .int .i64 d.time, .string d.key, .string d.body] 0)
 obtain ⟨r0, m0⟩ := B2.rules
 obtain ⟨ll, hll⟩ : ∃ ll, ll = ftAL b t ix n := ⟨_, rfl⟩
 obtain ⟨cc, hcc⟩ : ∃ cc, cc = lfCode b (ftIx b t ix) n := ⟨_, rfl⟩
 rw [← hll, ← hcc]
 have HL := hU hll; have HC := hU hcc
 clear F B2 he hd hr h1 hll hcc
 go_wp2_with fail
 refine ret_en3 rfl rfl X4.out Tryz.underlying46 rfl (by kernel_rfl) rfl ?_
 rw [FE.out.1, FE.out.2.1, FE.out.2.2.1, FE.out.2.2.2, ← HL.out, ← HC.out]
 exact ⟨v, d, HD.out, rfl, X6.out, X5.out⟩
end Go.Proofs.YtlgdghpnfclgpaaGreat
