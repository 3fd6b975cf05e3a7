/-
  SpSea2: No condition.
-/
import Derived.Test.YtlgdghpnfclgpaaGreatSpSeal
import Derived.Test.YtlgdghpnfclgpaaGreatBrkS
namespace Go.Proofs.YtlgdghpnfclgpaaGreat
set_option maxHeartbeats 4000000
set_option maxRecDepth 100000
set_option linter.unusedSimpArgs false
open Go.RowKit
set_option linter.unusedVariables false
theorem specSealNow_any (b : BrokerD) (A0 : Option Addr) (a0 : Nat) (A1 : Option Addr) (a1 : Nat) (A2 : Option Addr) (a2 : Nat) (A3 : Option Addr) (a3 : Nat) (A4 : Option Addr) (a4 : Nat) (w : World) (s : BArg AnyB w b A0 a0 A1 a1 A2 a2 A3 a3 A4 a4) (ok0 : ∀ x ∈ b.log.entries, x.Ok) (ok1 : ∀ x ∈ b.receipts, x.Ok) (hz : BSz b) :
 Calls Tryz.prog 37 #[.agg (brkV b A0 a0 A1 a1 A2 a2 A3 a3 A4 a4).toArray] w (BrAns (snB b) (snW b) (snCode b) w) := by
 have BOK := hU (fun (W : World) (hW : Ext w W) => specBrokerOk_any b A0 a0 A1 a1 A2 a2 A3 a3 A4 a4 W (s.ext hW).e (s.ext hW).r (s.ext hW).h (s.ext hW).u (s.ext hW).v ok0 ok1 hz.u hz.v)
 have TK := hU (fun (hB : brokerB b = true) (W : World) (hW : Ext w W) => l12Seal_any b A0 a0 A1 a1 A2 a2 A3 a3 A4 a4 W (s.ext hW) ⟨ok0, ok1, (broker_parts hB).2.2.2.2.2.1, hz⟩ hB)
 obtain ⟨cs, hcs⟩ : ∃ cs, cs = (brkV b A0 a0 A1 a1 A2 a2 A3 a3 A4 a4) := ⟨_, rfl⟩
 have HL13 := hU (show cs.length = 13 by rw [hcs]; rfl)
 rw [← hcs] at BOK TK
 rw [← hcs]
 clear s ok0 ok1 hz hcs
 obtain ⟨B1, B3, he⟩ := two_new w cs.toArray #[.int .i64 0, .slice none 0 0, .slice none 0 0, .slice none 0 0, .int .i64 0, .slice none 0 0, .int .i64 0, .slice none 0 0, .int .i64 0, .int .i64 0, .string ⟨#[]⟩, .int .i64 0, .string ⟨#[]⟩] 59 59
 obtain ⟨g1, hg1⟩ : ∃ g1, g1 = w.heap.size := ⟨_, rfl⟩
 obtain ⟨g3, hg3⟩ : ∃ g3, g3 = w.heap.size + 1 := ⟨_, rfl⟩
 go_enter Tryz.func37, Tryz.ntmps37
 go_upto_region 1 with fail
 obtain ⟨w3, hw3⟩ : ∃ w3, w3 = (w.alloc (.cells cs.toArray 59)).alloc (.cells #[.int .i64 0, .slice none 0 0, .slice none 0 0, .slice none 0 0, .int .i64 0, .slice none 0 0, .int .i64 0, .slice none 0 0, .int .i64 0, .int .i64 0, .string ⟨#[]⟩, .int .i64 0, .string ⟨#[]⟩] 59) := ⟨_, rfl⟩
 rw [← hw3] at B1 B3 he
 rw [← hw3]
 rw [← hg3] at B3
 rw [← hg1] at B1
 rw [← hg3, ← hg1]
 have hw : w.heap.size ≤ g3 := by omega
 clear hw3 hg1 hg3
 have RX := hU (Blk.range B1)
 go_wp2_with (refine wpList_load_mid rfl 59 _ rfl g1 0 rfl cs _ RX.out Tryz.underlying59 rfl (by rw [HL13.out]; kernel_rfl) ?_)
 refine (BOK.out _ he).mono ?_
 rintro e w4 ⟨rfl, h1⟩
 replace he := he.next h1; replace B1 := B1.ext h1; replace B3 := B3.ext h1
 clear h1 RX BOK
 cases pb : brokerB b
 · have E := hU (show snCode b = 1 by rw [snCode, pb]; rfl)
   have hxa := Ext.new (Below.refl w4.heap.size w4) (.cells #[] 112)
   have B3a := B3.ext hxa; have hea := he.next hxa
   have T4 := hU (B3a.there 0 13 (by simp))
   obtain ⟨wz, hwz, hz, hx, ho⟩ : ∃ wz, wz = (w4.alloc (.cells #[] 112)).setCells g3 0 [.int .i64 0, .slice none 0 0, .slice none 0 0, .slice none 0 0, .int .i64 0, .slice none 0 0, .int .i64 0, .slice none 0 0, .int .i64 0, .int .i64 0, .string ⟨#[]⟩, .int .i64 0, .string ⟨#[]⟩] ∧ Blk wz g3 59 #[.int .i64 0, .slice none 0 0, .slice none 0 0, .slice none 0 0, .int .i64 0, .slice none 0 0, .int .i64 0, .slice none 0 0, .int .i64 0, .int .i64 0, .string ⟨#[]⟩, .int .i64 0, .string ⟨#[]⟩] ∧ Ext w wz ∧ wz.ownsRow w.heap.size 112 3 (.slice (some ⟨w4.heap.size, 0, none⟩) 0 0) 0 [] := ⟨_, rfl, put_whole B3a [.int .i64 0, .slice none 0 0, .slice none 0 0, .slice none 0 0, .int .i64 0, .slice none 0 0, .int .i64 0, .slice none 0 0, .int .i64 0, .int .i64 0, .string ⟨#[]⟩, .int .i64 0, .string ⟨#[]⟩] rfl, ext_setCells hw [.int .i64 0, .slice none 0 0, .slice none 0 0, .slice none 0 0, .int .i64 0, .slice none 0 0, .int .i64 0, .slice none 0 0, .int .i64 0, .int .i64 0, .string ⟨#[]⟩, .int .i64 0, .string ⟨#[]⟩] 0 _ hea, row_far (ownsRow_empty w4 112 3) B3.lt he.size [.int .i64 0, .slice none 0 0, .slice none 0 0, .slice none 0 0, .int .i64 0, .slice none 0 0, .int .i64 0, .slice none 0 0, .int .i64 0, .int .i64 0, .string ⟨#[]⟩, .int .i64 0, .string ⟨#[]⟩] 0⟩
   have HW := hU hwz; have Z4 := hU hz; have X4 := hU hx; have OZ := hU ho
   clear hwz hz hx ho hxa B3a hea B3 he
   go_wp2_with (refine wpList_store_list rfl 59 _ _ rfl rfl g3 0 [.int .i64 0, .slice none 0 0, .slice none 0 0, .slice none 0 0, .int .i64 0, .slice none 0 0, .int .i64 0, .slice none 0 0, .int .i64 0, .int .i64 0, .string ⟨#[]⟩, .int .i64 0, .string ⟨#[]⟩] rfl rfl T4.out (by kernel_rfl) (by rfl) ?_; rw [← HW.out])
   exact ret_brk rfl rfl Z4.out Tryz.underlying59 rfl (by kernel_rfl) rfl (sn_end E.out (by decide) rfl OZ.out X4.out)
 have HPB := hU pb
 have RX := hU (Blk.range B1)
 go_wp2_with (refine wpList_load_mid rfl 59 _ rfl g1 0 rfl cs _ RX.out Tryz.underlying59 rfl (by rw [HL13.out]; kernel_rfl) ?_)
 refine (TK.out HPB.out _ he).mono ?_
 rintro e w5 ⟨ve, vr, vh, v1, v2, vw, rfl, rows, ap, ow, h1⟩
 have hK := B3.lt
 have h4 := he.size
 replace he := he.next h1; replace B3 := B3.ext h1
 clear h1 RX TK B1 pb
 obtain ⟨VE, ce, rfl, _⟩ := ownsRow_form rows.e
 obtain ⟨VR, cr, rfl, _⟩ := ownsRow_form rows.r
 obtain ⟨VH, ch, rfl, _⟩ := ownsRow_form rows.h
 obtain ⟨VU, cu, rfl, _⟩ := ownsRow_form rows.p
 obtain ⟨VV, cv, rfl, _⟩ := ownsRow_form rows.q
 obtain ⟨VW, cw, rfl, _⟩ := ownsRow_form ow
 obtain ⟨B, hBB⟩ : ∃ B, B = snB b := ⟨_, rfl⟩
 rw [← hBB] at rows ap
 rw [← hBB]
 obtain ⟨C, hC⟩ : ∃ C, C = snCode b := ⟨_, rfl⟩
 rw [← hC]
 obtain ⟨W, hW⟩ : ∃ W, W = snW b := ⟨_, rfl⟩
 rw [← hW] at ow
 rw [← hW]
 obtain ⟨ms, hms⟩ : ∃ ms, ms = brkCs B (.slice VE B.log.entries.length ce) (.slice VR B.receipts.length cr) (.slice VH B.heads.length ch) (.slice VU B.sealed.leaves.peaks.length cu) (.slice VV B.sealed.taken.peaks.length cv) := ⟨_, rfl⟩
 rw [← hms]
 have HM13 := hU (show ms.length = 13 by rw [hms]; rfl)
 have HM1 := hU (show ms.all (·.oneCell') = true by rw [hms]; rfl)
 have HMS := hU hms
 obtain ⟨wz, hwz, hz, hx⟩ : ∃ wz, wz = w5.setCells g3 0 ms ∧ Blk wz g3 59 ms.toArray ∧ Ext w wz := ⟨_, rfl, put_whole B3 ms (by rw [HM13.out]; rfl), ext_setCells hw ms 0 _ he⟩
 have HW := hU hwz; have T4 := hU (show w5.there g3 0 ms.length by rw [HM13.out]; exact B3.there 0 13 (by simp)); have Z4 := hU hz; have X4 := hU hx
 have RZ : Hid (BRows w.heap.size wz B (.slice VE B.log.entries.length ce) (.slice VR B.receipts.length cr) (.slice VH B.heads.length ch) (.slice VU B.sealed.leaves.peaks.length cu) (.slice VV B.sealed.taken.peaks.length cv)) := hU (by rw [hwz]; exact ⟨row_far rows.e hK h4 ms 0, row_far rows.r hK h4 ms 0, row_far rows.h hK h4 ms 0, row_far rows.p hK h4 ms 0, row_far rows.q hK h4 ms 0⟩)
 have OZ : Hid (wz.ownsRow w.heap.size 112 3 (.slice VW W.length cw) W.length (W.flatMap WriteD.cells)) := hU (by rw [hwz]; exact row_far ow hK h4 ms 0)
 have AP := hU ap; have HBB := hU hBB; have HCC := hU hC; have HWW := hU hW
 clear hwz hz hx rows ow hms ap hBB hC hW B3 he
 go_wp2_with (refine wpList_store_list rfl 59 _ _ rfl rfl g3 0 ms rfl rfl T4.out (by rw [HM13.out]; kernel_rfl) HM1.out ?_; rw [← HW.out])
 refine ret_brk rfl rfl Z4.out Tryz.underlying59 rfl (by rw [List.size_toArray, HM13.out]; kernel_rfl) rfl ?_
 rw [← HBB.out, ← HWW.out, ← HCC.out]
 exact ⟨_, _, _, _, _, _, by rw [HMS.out]; rfl, RZ.out, AP.out, OZ.out, X4.out⟩
end Go.Proofs.YtlgdghpnfclgpaaGreat
