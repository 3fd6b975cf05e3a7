/-
  SpPub2; PubA: No condition.
-/
import Derived.Test.YtlgdghpnfclgpaaGreatSpPub
import Derived.Test.YtlgdghpnfclgpaaGreatBrkS
import Derived.Test.YtlgdghpnfclgpaaGreatPubP
import Derived.Test.YtlgdghpnfclgpaaGreatTakeB
namespace Go.Proofs.YtlgdghpnfclgpaaGreat
set_option maxHeartbeats 4000000
set_option maxRecDepth 100000
set_option linter.unusedSimpArgs false
open Go.RowKit
set_option linter.unusedVariables false
theorem specPublish_any (b : BrokerD) (d : EntryD) (A0 : Option Addr) (a0 : Nat) (A1 : Option Addr) (a1 : Nat) (A2 : Option Addr) (a2 : Nat) (A3 : Option Addr) (a3 : Nat) (A4 : Option Addr) (a4 : Nat) (w : World) (s : BArg AnyB w b A0 a0 A1 a1 A2 a2 A3 a3 A4 a4) (ok0 : ∀ x ∈ b.log.entries, x.Ok) (ok1 : ∀ x ∈ b.receipts, x.Ok) (hz : BSz b) (hd : d.Ok) :
 Calls Tryz.prog 35 #[.agg (brkV b A0 a0 A1 a1 A2 a2 A3 a3 A4 a4).toArray, .string d.topic, .int .i64 d.time, .string d.key, .string d.body] w (BrAns4 (pbB b d) (pbW b d) (pbL b d) (pbCode b d) w) := by
 have BOK := hU (fun (W : World) (hW : Ext w W) => specBrokerOk_any b A0 a0 A1 a1 A2 a2 A3 a3 A4 a4 W (s.ext hW).e (s.ext hW).r (s.ext hW).h (s.ext hW).u (s.ext hW).v ok0 ok1 hz.u hz.v)
 have TK := hU (fun (hB : brokerB b = true) (W : World) (hW : Ext w W) => l12Publish_any b d A0 a0 A1 a1 A2 a2 A3 a3 A4 a4 W (s.ext hW) ⟨ok0, ok1, (broker_parts hB).2.2.2.2.2.1, hz⟩ hd hB)
 obtain ⟨cs, hcs⟩ : ∃ cs, cs = (brkV b A0 a0 A1 a1 A2 a2 A3 a3 A4 a4) := ⟨_, rfl⟩
 have HL13 := hU (show cs.length = 13 by rw [hcs]; rfl)
 rw [← hcs] at BOK TK
 rw [← hcs]
 clear s ok0 ok1 hz hd hcs
 obtain ⟨B1, B3, he⟩ := two_new w cs.toArray #[.int .i64 0, .slice none 0 0, .slice none 0 0, .slice none 0 0, .int .i64 0, .slice none 0 0, .int .i64 0, .slice none 0 0, .int .i64 0, .int .i64 0, .string ⟨#[]⟩, .int .i64 0, .string ⟨#[]⟩] 59 59
 obtain ⟨g1, hg1⟩ : ∃ g1, g1 = w.heap.size := ⟨_, rfl⟩
 obtain ⟨g3, hg3⟩ : ∃ g3, g3 = w.heap.size + 1 := ⟨_, rfl⟩
 go_enter Tryz.func35, Tryz.ntmps35
 go_upto_region 1 with fail
 obtain ⟨w3, hw3⟩ : ∃ w3, w3 = (w.alloc (.cells cs.toArray 59)).alloc (.cells #[.int .i64 0, .slice none 0 0, .slice none 0 0, .slice none 0 0, .int .i64 0, .slice none 0 0, .int .i64 0, .slice none 0 0, .int .i64 0, .int .i64 0, .string ⟨#[]⟩, .int .i64 0, .string ⟨#[]⟩] 59) := ⟨_, rfl⟩
 rw [← hw3] at B1 B3 he
 rw [← hw3]
 rw [← hg3] at B3
 rw [← hg1] at B1
 rw [← hg3, ← hg1]
 have hw : w.heap.size ≤ g3 := by omega
 clear hw3 hg1 hg3
 have RX := hU (Blk.range B1)
 go_wp2_with (refine wpList_load_mid rfl 59 _ rfl g1 0 rfl cs _ RX.out Tryz.underlying59 rfl (by rw [HL13.out]; kernel_rfl) ?_)
 refine (BOK.out _ he).mono ?_
 rintro e w4 ⟨rfl, h1⟩
 replace he := he.next h1; replace B1 := B1.ext h1; replace B3 := B3.ext h1
 clear h1 RX BOK
 cases pb : brokerB b
 · have E := hU (show pbCode b d = 1 by rw [pbCode, pb]; rfl)
   have HNE := hU (show (1 : Nat) ≠ 0 by decide)
   have hxa := Ext.new (Below.refl w4.heap.size w4) (.cells #[] 112)
   have B3a := B3.ext hxa; have hea := he.next hxa
   have T4 := hU (B3a.there 0 13 (by simp))
   obtain ⟨wz, hwz, hz, hx, ho⟩ : ∃ wz, wz = (w4.alloc (.cells #[] 112)).setCells g3 0 [.int .i64 0, .slice none 0 0, .slice none 0 0, .slice none 0 0, .int .i64 0, .slice none 0 0, .int .i64 0, .slice none 0 0, .int .i64 0, .int .i64 0, .string ⟨#[]⟩, .int .i64 0, .string ⟨#[]⟩] ∧ Blk wz g3 59 #[.int .i64 0, .slice none 0 0, .slice none 0 0, .slice none 0 0, .int .i64 0, .slice none 0 0, .int .i64 0, .slice none 0 0, .int .i64 0, .int .i64 0, .string ⟨#[]⟩, .int .i64 0, .string ⟨#[]⟩] ∧ Ext w wz ∧ wz.ownsRow w.heap.size 112 3 (.slice (some ⟨w4.heap.size, 0, none⟩) 0 0) 0 [] := ⟨_, rfl, put_whole B3a [.int .i64 0, .slice none 0 0, .slice none 0 0, .slice none 0 0, .int .i64 0, .slice none 0 0, .int .i64 0, .slice none 0 0, .int .i64 0, .int .i64 0, .string ⟨#[]⟩, .int .i64 0, .string ⟨#[]⟩] rfl, ext_setCells hw [.int .i64 0, .slice none 0 0, .slice none 0 0, .slice none 0 0, .int .i64 0, .slice none 0 0, .int .i64 0, .slice none 0 0, .int .i64 0, .int .i64 0, .string ⟨#[]⟩, .int .i64 0, .string ⟨#[]⟩] 0 _ hea, row_far (ownsRow_empty w4 112 3) B3.lt he.size [.int .i64 0, .slice none 0 0, .slice none 0 0, .slice none 0 0, .int .i64 0, .slice none 0 0, .int .i64 0, .slice none 0 0, .int .i64 0, .int .i64 0, .string ⟨#[]⟩, .int .i64 0, .string ⟨#[]⟩] 0⟩
   have HW := hU hwz; have Z4 := hU hz; have X4 := hU hx; have OZ := hU ho
   clear hwz hz hx ho hxa B3a hea B3 he
   go_wp2_with (refine wpList_store_list rfl 59 _ _ rfl rfl g3 0 [.int .i64 0, .slice none 0 0, .slice none 0 0, .slice none 0 0, .int .i64 0, .slice none 0 0, .int .i64 0, .slice none 0 0, .int .i64 0, .int .i64 0, .string ⟨#[]⟩, .int .i64 0, .string ⟨#[]⟩] rfl rfl T4.out (by kernel_rfl) (by rfl) ?_; rw [← HW.out])
   exact ret_cttt (s0 := 10) (s1 := 11) (s2 := 12) (s3 := 13) rfl rfl Z4.out Tryz.underlying59 rfl (by kernel_rfl) rfl (pb_end E.out HNE.out rfl OZ.out X4.out)
 have HPB := hU pb
 have RX := hU (Blk.range B1)
 go_wp2_with (refine wpList_load_mid rfl 59 _ rfl g1 0 rfl cs _ RX.out Tryz.underlying59 rfl (by rw [HL13.out]; kernel_rfl) ?_)
 refine (TK.out HPB.out _ he).mono ?_
 rintro e w5 ⟨ve, vr, vh, v1, v2, vw, rfl, rows, ap, ow, h1⟩
 have hK := B3.lt
 have h4 := he.size
 replace he := he.next h1; replace B3 := B3.ext h1
 clear h1 RX TK B1 pb
 obtain ⟨VE, ce, rfl, _⟩ := ownsRow_form rows.e
 obtain ⟨VR, cr, rfl, _⟩ := ownsRow_form rows.r
 obtain ⟨VH, ch, rfl, _⟩ := ownsRow_form rows.h
 obtain ⟨VU, cu, rfl, _⟩ := ownsRow_form rows.p
 obtain ⟨VV, cv, rfl, _⟩ := ownsRow_form rows.q
 obtain ⟨VW, cw, rfl, _⟩ := ownsRow_form ow
 obtain ⟨B, hBB⟩ : ∃ B, B = pbB b d := ⟨_, rfl⟩
 rw [← hBB] at rows ap
 rw [← hBB]
 obtain ⟨C, hC⟩ : ∃ C, C = pbCode b d := ⟨_, rfl⟩
 rw [← hC]
 obtain ⟨LL_, hLL⟩ : ∃ LL_, LL_ = pbL b d := ⟨_, rfl⟩
 rw [← hLL]
 have HLL := hU hLL
 clear hLL
 obtain ⟨W, hW⟩ : ∃ W, W = pbW b d := ⟨_, rfl⟩
 rw [← hW] at ow
 rw [← hW]
 obtain ⟨ms, hms⟩ : ∃ ms, ms = brkCs B (.slice VE B.log.entries.length ce) (.slice VR B.receipts.length cr) (.slice VH B.heads.length ch) (.slice VU B.sealed.leaves.peaks.length cu) (.slice VV B.sealed.taken.peaks.length cv) := ⟨_, rfl⟩
 rw [← hms]
 have HM13 := hU (show ms.length = 13 by rw [hms]; rfl)
 have HM1 := hU (show ms.all (·.oneCell') = true by rw [hms]; rfl)
 have HMS := hU hms
 obtain ⟨wz, hwz, hz, hx⟩ : ∃ wz, wz = w5.setCells g3 0 ms ∧ Blk wz g3 59 ms.toArray ∧ Ext w wz := ⟨_, rfl, put_whole B3 ms (by rw [HM13.out]; rfl), ext_setCells hw ms 0 _ he⟩
 have HW := hU hwz; have T4 := hU (show w5.there g3 0 ms.length by rw [HM13.out]; exact B3.there 0 13 (by simp)); have Z4 := hU hz; have X4 := hU hx
 have RZ : Hid (BRows w.heap.size wz B (.slice VE B.log.entries.length ce) (.slice VR B.receipts.length cr) (.slice VH B.heads.length ch) (.slice VU B.sealed.leaves.peaks.length cu) (.slice VV B.sealed.taken.peaks.length cv)) := hU (by rw [hwz]; exact ⟨row_far rows.e hK h4 ms 0, row_far rows.r hK h4 ms 0, row_far rows.h hK h4 ms 0, row_far rows.p hK h4 ms 0, row_far rows.q hK h4 ms 0⟩)
 have OZ : Hid (wz.ownsRow w.heap.size 112 3 (.slice VW W.length cw) W.length (W.flatMap WriteD.cells)) := hU (by rw [hwz]; exact row_far ow hK h4 ms 0)
 have AP := hU ap; have HBB := hU hBB; have HCC := hU hC; have HWW := hU hW
 clear hwz hz hx rows ow hms ap hBB hC hW B3 he
 go_wp2_with (refine wpList_store_list rfl 59 _ _ rfl rfl g3 0 ms rfl rfl T4.out (by rw [HM13.out]; kernel_rfl) HM1.out ?_; rw [← HW.out])
 refine ret_cttt (s0 := 10) (s1 := 11) (s2 := 12) (s3 := 13) rfl rfl Z4.out Tryz.underlying59 rfl (by rw [List.size_toArray, HM13.out]; kernel_rfl) rfl ?_
 rw [← HBB.out, ← HWW.out, ← HLL.out, ← HCC.out]
 exact ⟨_, _, _, _, _, _, by rw [HMS.out]; rfl, RZ.out, AP.out, OZ.out, X4.out⟩
set_option maxHeartbeats 8000000
theorem ext_w {w w' : World} (h : Ext w w') : ∃ x, x = w' := ⟨w', rfl⟩
theorem nextOf_any (A : Option Addr) (c : Nat) (l : List EntryD) (t : ByteArray) (w : World) (hr : SlF AnyB EntryD.cells 5 w A l c) (hl : l.length ≤ 1048576) :
 Calls Tryz.prog 212 #[.agg #[.slice A l.length c], .string t] w fun e w' => e = .returned (.int .i64 (cntT l t : Int)) ∧ Ext w w' := by
 have HR := hU hr
 have B0 := Blk.new w 51 #[.slice A l.length c]
 have he := Ext.new (Below.refl w.heap.size w) (.cells #[.slice A l.length c] 51)
 obtain ⟨r0, f0⟩ := B0.rules
 clear hr B0
 go_enter Tryz.func212, Tryz.ntmps212
 go_wp2_with fail
 clear r0 f0
 generalize w.alloc (.cells #[.slice A l.length c] 51) = w1 at *
 go_loopw [5, 11] (fun n i wr => ∃ (k : Nat), k ≤ l.length ∧ i = .int .i64 k ∧ n = .int .i64 (cntT (l.take k) t : Int) ∧ Ext w wr) (fun _ i _ => l.length - (intOf i).toNat)
 case atStart => exact ⟨0, Nat.zero_le _, rfl, rfl, he⟩
 case round =>
  obtain ⟨k, hk, rfl, rfl, hx⟩ := hrel
  obtain ⟨wr, rfl⟩ := ext_w hx
  clear he
  by_cases hlt : k < l.length
  case neg =>
   obtain rfl : k = l.length := by omega
   have d1 : decide ((l.length : Int) < (l.length : Int)) = false := by simp
   have E := hU (show cntT (l.take l.length) t = cntT l t by rw [List.take_length])
   go_wp2_with fail
   go_ret
   exact ⟨by rw [E.out]; rfl, hx⟩
  have d1 : decide ((k : Int) < (l.length : Int)) = true := by rw [decide_eq_true_eq]; omega
  obtain ⟨b, off, rfl, hb, hc⟩ := Reads.at_ (HR.out.ext hx).reads (k := k) hlt
  obtain ⟨d, hd⟩ : ∃ d, d = l[k] := ⟨_, rfl⟩
  have hdl : l[k]? = some d := by rw [hd]; exact List.getElem?_eq_getElem hlt
  obtain ⟨c0, c1, c2, c3, c4⟩ := entry_at hc hdl
  have Hn := hU (cntT_next (t := t) hdl)
  have hcl := cntT_le (l.take k) t
  rw [List.length_take] at hcl
  have hcl2 : cntT (l.take k) t ≤ 1048576 := by omega
  clear hc hd hdl hcl
  go_upto_region 5 with fail
  have Q := Blk.new wr 46 #[.string d.topic, .int .i64 d.index, .int .i64 d.time, .string d.key, .string d.body]
  have h1 := Ext.new (Below.refl wr.heap.size wr) (.cells #[.string d.topic, .int .i64 d.index, .int .i64 d.time, .string d.key, .string d.body] 46)
  replace hx := hx.next h1
  obtain ⟨rq, fq⟩ := Q.rules
  clear h1 Q c0 c1 c2 c3 c4
  generalize wr.alloc (.cells #[.string d.topic, .int .i64 d.index, .int .i64 d.time, .string d.key, .string d.body] 46) = wq at *
  cases b1 : (d.topic.toList == t.toList)
  · have E := hU (show cntT (l.take (k + 1)) t = cntT (l.take k) t by rw [Hn.out, ofTopic, b1]; rfl)
    go_wp2_with fail
    go_roundw
    case rel => exact ⟨k + 1, by omega, by go_num, by rw [E.out], hx⟩
    case measure => simp [intOf]; omega
  · have E := hU (show cntT (l.take (k + 1)) t = cntT (l.take k) t + 1 by rw [Hn.out, ofTopic, b1]; rfl)
    go_wp2_with fail
    go_roundw
    case rel => exact ⟨k + 1, by omega, by go_num, by rw [E.out]; go_num, hx⟩
    case measure => simp [intOf]; omega
def AdEnd (b : BrokerD) (d : EntryD) (K g : Nat) (v0 vr vh v1 v2 : Value) (w : World) (e : Ending) (w' : World) : Prop :=
 (adCode b.log.entries d ≠ 0 ∧ e = .returned (.tuple #[.int .i64 0, .int .i64 (adCode b.log.entries d : Int)]) ∧ Ext w w') ∨
  (adCode b.log.entries d = 0 ∧ e = .returned (.tuple #[.int .i64 (b.log.entries.length : Int), .int .i64 0]) ∧ ∃ ve, Blk w' g 59 (brkCs (pbB0 b d) ve vr vh v1 v2).toArray ∧ BRows K w' (pbB0 b d) ve vr vh v1 v2 ∧ Frm (fun y => y = g ∨ v0.ownBlock = some y) w w')
theorem AdEnd.no {b : BrokerD} {d : EntryD} {K g : Nat} {v0 vr vh v1 v2 : Value} {w w' : World} {e : Ending} {k : Nat} (h : adCode b.log.entries d = k) (h0 : k ≠ 0) (he : e = .returned (.tuple #[.int .i64 0, .int .i64 (k : Int)])) (hx : Ext w w') : AdEnd b d K g v0 vr vh v1 v2 w e w' :=
 .inl ⟨by omega, by rw [h]; exact he, hx⟩
theorem addEntry_any (b : BrokerD) (d : EntryD) (g : Nat) (A0 : Option Addr) (a0 : Nat) (A1 : Option Addr) (a1 : Nat) (A2 : Option Addr) (a2 : Nat) (A3 : Option Addr) (a3 : Nat) (A4 : Option Addr) (a4 : Nat) (K : Nat) (w : World) (hb : Blk w g 59 #[.int .i64 b.width, .slice A0 b.log.entries.length a0, .slice A1 b.receipts.length a1, .slice A2 b.heads.length a2, .int .i64 b.sealed.leaves.size, .slice A3 b.sealed.leaves.peaks.length a3, .int .i64 b.sealed.taken.size, .slice A4 b.sealed.taken.peaks.length a4, .int .i64 b.sealed.head.number, .int .i64 b.sealed.head.size, .string b.sealed.head.root, .int .i64 b.sealed.head.taken, .string b.sealed.head.takenRoot]) (hrows : BRows K w b (.slice A0 b.log.entries.length a0) (.slice A1 b.receipts.length a1) (.slice A2 b.heads.length a2) (.slice A3 b.sealed.leaves.peaks.length a3) (.slice A4 b.sealed.taken.peaks.length a4)) (hd : d.Ok) (hl : b.log.entries.length ≤ 1048576) (hKg : K ≤ g) (hKw : K ≤ w.heap.size) :
 Calls Tryz.prog 160 #[.pointer (some ⟨g, 1, none⟩), .string d.topic, .int .i64 d.time, .string d.key, .string d.body] w (AdEnd b d K g (.slice A0 b.log.entries.length a0) (.slice A1 b.receipts.length a1) (.slice A2 b.heads.length a2) (.slice A3 b.sealed.leaves.peaks.length a3) (.slice A4 b.sealed.taken.peaks.length a4) w) := by
 obtain ⟨i0, hi, hz0, hz1, hz2⟩ := info_parts info_entry
 have hgw := hb.lt
 have BG := hU hb; have RW := hU hrows; have HD := hU hd
 have S0 := hU (slf_at hrows.e)
 have he : Ext w w := Below.refl w.heap.size w
 obtain ⟨n, hn⟩ : ∃ n, n = b.log.entries.length := ⟨_, rfl⟩
 have HN := hU hn
 have NX := hU (fun (W : World) (hW : Ext w W) => nextOf_any A0 a0 b.log.entries d.topic W (S0.out.ext hW) hl)
 rw [← hn] at hl NX
 rw [← hn]
 clear hb hrows hd hn
 go_enter Tryz.func160, Tryz.ntmps160
 go_wp2_with fail
 refine (NameOk_any d.topic _ HD.out.1).mono ?_
 rintro e w1 ⟨rfl, rfl⟩
 cases p1 : nameOk d.topic
 · have E := hU (ad2 (l := b.log.entries) p1)
   go_wp2_with fail
   go_ret2
   exact AdEnd.no E.out (by decide) rfl he
 go_wp2_with fail
 refine (partsOk_any d.time d.key d.body _ HD.out.2.2.2.1 HD.out.2.2.2.2).mono ?_
 rintro e w1 ⟨rfl, rfl⟩
 cases p2 : partsB d.time d.key d.body
 · have E := hU (ad3 (l := b.log.entries) p1 p2)
   go_wp2_with fail
   go_ret2
   exact AdEnd.no E.out (by decide) rfl he
 have G1 := BG.out
 rw [← HN.out] at G1
 obtain ⟨rg, fg⟩ := G1.rules
 by_cases p3 : 512 ≤ n
 · have E := hU (ad4 (l := b.log.entries) p1 p2 (by rw [← HN.out]; exact p3))
   have g0 : decide ((512 : Int) ≤ (n : Int)) = true := decide_eq_true (by omega)
   clear G1
   go_wp2_with fail
   go_ret2
   exact AdEnd.no E.out (by decide) rfl he
 have E := hU (ad0 (l := b.log.entries) p1 p2 (by rw [← HN.out]; exact p3))
 have g0 : decide ((512 : Int) ≤ (n : Int)) = false := decide_eq_false (by omega)
 clear G1
 go_wp2_with fail
 refine (NX.out _ he).mono ?_
 rintro e w1 ⟨rfl, h1⟩
 replace he := he.next h1
 clear h1 rg fg g0
 obtain ⟨nx, hnx⟩ : ∃ nx, nx = (cntT b.log.entries d.topic : Int) := ⟨_, rfl⟩
 have HNX := hU hnx
 rw [← hnx]
 clear hnx
 go_upto_region 8 with fail
 have Q := Blk.new w1 46 #[.string d.topic, .int .i64 nx, .int .i64 d.time, .string d.key, .string d.body]
 have h1 := Ext.new (Below.refl w1.heap.size w1) (.cells #[.string d.topic, .int .i64 nx, .int .i64 d.time, .string d.key, .string d.body] 46)
 replace he := he.next h1
 obtain ⟨q, hq⟩ : ∃ q, q = w1.heap.size := ⟨_, rfl⟩
 rw [← hq] at Q
 rw [← hq]
 clear h1 hq
 generalize w1.alloc (.cells #[.string d.topic, .int .i64 nx, .int .i64 d.time, .string d.key, .string d.body] 46) = w2 at *
 have G1 := BG.out.ext he
 have RX : BRows K _ b _ _ _ _ _ := RW.out.ext he
 rw [← HN.out] at G1 RX
 refine wp_region_any (by kernel_rfl) ?_
 change wpAny _ _ _ _ _ _ _ (World.drew _)
 refine takeA (i := 0) (oi := _) (v := .pointer (some ⟨g, 1, none⟩)) (some 40) rfl rfl (by kernel_rfl) (by kernel_rfl) (by kernel_rfl) (fun _ a b _ e h => by cases a; cases b; cases e; exact h) (Or.inl ⟨by rfl, ?z0⟩) ?rz0
 case z0 => intro w'; go_simp; try with_reducible rfl
 try simp only [zA]
 refine takeA (i := 1) (oi := _) (v := .pointer (some ⟨g, 1, none⟩)) (some 41) rfl rfl (by kernel_rfl) (by kernel_rfl) (by kernel_rfl) (fun _ a b _ e h => by cases a; cases b; cases e; exact h) (Or.inl ⟨by rfl, ?z1⟩) ?rz1
 case z1 => intro w'; go_simp; try with_reducible rfl
 try simp only [zA]
 refine takeA (i := 2) (oi := _) (v := .pointer (some ⟨g, 1, none⟩)) (some 42) rfl rfl (by kernel_rfl) (by kernel_rfl) (by kernel_rfl) (fun _ a b _ e h => by cases a; cases b; cases e; exact h) (Or.inl ⟨by rfl, ?z2⟩) ?rz2
 case z2 => intro w'; go_simp; try with_reducible rfl
 try simp only [zA]
 refine takeA (i := 3) (oi := _) (v := .pointer (some ⟨g, 1, none⟩)) (some 43) rfl rfl (by kernel_rfl) (by kernel_rfl) (by kernel_rfl) (fun _ a b _ e h => by cases a; cases b; cases e; exact h) (Or.inl ⟨by rfl, ?z3⟩) ?rz3
 case z3 => intro w'; go_simp; try with_reducible rfl
 try simp only [zA]
 refine wpAny_bunch [(4, some 44), (5, some 45), (6, some 46)] (fun i v w' => match i with
  | 4 => v = .slice A0 n a0
  | 5 => v = .agg #[.string d.topic, .int .i64 nx, .int .i64 d.time, .string d.key, .string d.body]
  | 6 => ∃ Q, v = .slice (some ⟨Q, 0, none⟩) 1 1 ∧ Blk w' Q 46 #[.string d.topic, .int .i64 nx, .int .i64 d.time, .string d.key, .string d.body]
  | _ => True) (fun w' => Blk w' g 59 #[.int .i64 b.width, .slice A0 n a0, .slice A1 b.receipts.length a1, .slice A2 b.heads.length a2, .int .i64 b.sealed.leaves.size, .slice A3 b.sealed.leaves.peaks.length a3, .int .i64 b.sealed.taken.size, .slice A4 b.sealed.taken.peaks.length a4, .int .i64 b.sealed.head.number, .int .i64 b.sealed.head.size, .string b.sealed.head.root, .int .i64 b.sealed.head.taken, .string b.sealed.head.takenRoot] ∧ Blk w' q 46 #[.string d.topic, .int .i64 nx, .int .i64 d.time, .string d.key, .string d.body] ∧ BRows K w' b (.slice A0 n a0) (.slice A1 b.receipts.length a1) (.slice A2 b.heads.length a2) (.slice A3 b.sealed.leaves.peaks.length a3) (.slice A4 b.sealed.taken.peaks.length a4) ∧ Ext w w') (fun w1 w2 => Ext w1 w2) (n := 4) (by kernel_rfl) (by rfl) (fun _ a b _ e h => by cases a; cases b; cases e; exact h) ?hR ⟨G1.drew, Q.drew, RX.ext (Below.refl _ _).drew, he.drew⟩ ?hst ?hend
 case hR =>
  intro j v wa wb hx h
  split
  · exact h
  · exact h
  · obtain ⟨Q, h1, h2⟩ := h; exact ⟨Q, h1, h2.ext hx⟩
  · trivial
 case hst =>
  clear G1 RX Q he
  refine BunchAll.cons [] (o := _) rfl rfl rfl (by kernel_rfl) (fun vals u hv hS K' hK => ?_) ?_
  · clear hv
    obtain ⟨r0, f0⟩ := hS.1.rules
    refine ⟨?_⟩
    (try simp only [zB] at hK ⊢)
    go_simp
    exact hK.out _ _ ⟨_, rfl, rfl⟩ hS (Below.refl _ _)
  refine BunchAll.cons [] (o := _) rfl rfl rfl (by kernel_rfl) (fun vals u hv hS K' hK => ?_) ?_
  · clear hv
    obtain ⟨r0, f0⟩ := hS.2.1.rules
    refine ⟨?_⟩
    (try simp only [zB] at hK ⊢)
    go_simp
    exact hK.out _ _ ⟨_, rfl, rfl⟩ hS (Below.refl _ _)
  refine BunchAll.cons [5] (o := _) rfl rfl rfl (by kernel_rfl) (fun vals u hv hS K' hK => ?_) ?_
  · obtain ⟨hv, _⟩ := hv
    have h1 := Ext.new (Below.refl u.heap.size u) (.cells #[.string d.topic, .int .i64 nx, .int .i64 d.time, .string d.key, .string d.body] 46)
    have F := hK.out _ (u.alloc (.cells #[.string d.topic, .int .i64 nx, .int .i64 d.time, .string d.key, .string d.body] 46)) ⟨_, rfl, u.heap.size, rfl, Blk.new _ _ _⟩ ⟨hS.1.ext h1, hS.2.1.ext h1, hS.2.2.1.ext h1, hS.2.2.2.next h1⟩ h1
    refine ⟨?_⟩
    (try simp only [zB] at hK F ⊢)
    simp only at hv
    rw [hv] at hK F ⊢
    clear hv
    go_simp
    exact F
  exact BunchAll.nil
 case hend =>
  clear G1 RX Q he
  intro vals w8 hv hS
  obtain ⟨hv4, hv5, ⟨Q, hv6, bq⟩, _⟩ := hv
  simp only at hv4 hv5 hv6
  try simp only [zB]
  rw [hv4, hv5, hv6]
  clear hv4 hv5 hv6
  obtain ⟨g8, _, rx, he⟩ := hS
  have rxe : w8.ownsRow K 46 5 (.slice A0 n a0) n (b.log.entries.flatMap EntryD.cells) := by rw [HN.out]; have h := rx.e; rw [HN.out] at h; exact h
  refine oneA 7 (oi := _) (some 47) (by kernel_rfl) rfl rfl rfl (fun K' hK => ?_)
  refine ⟨?_⟩; rw [if_pos (by rfl)]
  refine wp_append_moved _ _ _ 49 (by rfl) K 46 i0 _ 5 64 Tryz.underlying49 hi hz0 hz1 hz2 rfl (by decide) (.slice A0 n a0) n (b.log.entries.flatMap EntryD.cells) (by rfl) rxe ⟨Q, 0, none⟩ 1 1 [.string d.topic, .int .i64 nx, .int .i64 d.time, .string d.key, .string d.body] (by rfl) (by rfl) bq.adds (by intro u hu; simp at hu; rcases hu with rfl | rfl | rfl | rfl | rfl <;> rfl) ?_ ?_ ?_ (fun v' w9 ho hf hm => ?_)
  · unfold maxLen; omega
  · omega
  · exact Nat.le_trans hKw he.size
  obtain ⟨V1, v1, rfl, _⟩ := ownsRow_form ho
  have g9 := hf.blk g8 (fun e => own_ne rxe g8 (by decide) _ e rfl)
  have fr := hf.own rx.r (fun y hy e2 => own_apart rx.r rxe (by decide) y hy e2)
  have fh := hf.own rx.h (fun y hy e2 => own_apart rx.h rxe (by decide) y hy e2)
  have fp := hf.own rx.p (fun y hy e2 => own_apart rx.p rxe (by decide) y hy e2)
  have fq := hf.own rx.q (fun y hy e2 => own_apart rx.q rxe (by decide) y hy e2)
  have fe : w9.ownsRow K 46 5 (.slice V1 (n + 1) v1) (pbB0 b d).log.entries.length ((pbB0 b d).log.entries.flatMap EntryD.cells) := by
   have e1 : (pbB0 b d).log.entries.length = n + 1 := by rw [HN.out]; simp [pbB0]
   have e2 : (pbB0 b d).log.entries.flatMap EntryD.cells = b.log.entries.flatMap EntryD.cells ++ [.string d.topic, .int .i64 nx, .int .i64 d.time, .string d.key, .string d.body] := by rw [HNX.out]; simp [pbB0, pbNew, addNew, EntryD.cells]
   rw [e1, e2]; exact ho
  have bl : Frm (fun y => y = g ∨ (Value.slice A0 n a0).ownBlock = some y) w w9 := (Frm.of_ext he).next hf (fun y _ hy => .inr hy)
  have z1 : Blk (w9.setCell ⟨g, 1, none⟩ (.slice V1 (n + 1) v1)) g 59 (brkCs (pbB0 b d) (.slice V1 (n + 1) v1) (.slice A1 b.receipts.length a1) (.slice A2 b.heads.length a2) (.slice A3 b.sealed.leaves.peaks.length a3) (.slice A4 b.sealed.taken.peaks.length a4)).toArray := g9.put 1 [.slice V1 (n + 1) v1] (brkCs (pbB0 b d) (.slice V1 (n + 1) v1) (.slice A1 b.receipts.length a1) (.slice A2 b.heads.length a2) (.slice A3 b.sealed.leaves.peaks.length a3) (.slice A4 b.sealed.taken.peaks.length a4)).toArray (by simp) rfl
  have z2 : BRows K (w9.setCell ⟨g, 1, none⟩ (.slice V1 (n + 1) v1)) (pbB0 b d) (.slice V1 (n + 1) v1) (.slice A1 b.receipts.length a1) (.slice A2 b.heads.length a2) (.slice A3 b.sealed.leaves.peaks.length a3) (.slice A4 b.sealed.taken.peaks.length a4) := ⟨row_put fe g9 (by decide) [_] _, row_put fr g9 (by decide) [_] _, row_put fh g9 (by decide) [_] _, row_put fp g9 (by decide) [_] _, row_put fq g9 (by decide) [_] _⟩
  have z4 : Frm (fun y => y = g ∨ (Value.slice A0 n a0).ownBlock = some y) w (w9.setCell ⟨g, 1, none⟩ (.slice V1 (n + 1) v1)) := Frm.setCells bl (g := g) (fun _ => .inl rfl) [.slice V1 (n + 1) v1] 1
  have Z1 := hU z1; have Z2 := hU z2; have Z4 := hU z4
  have c1 := g9.cell 1
  have f1 := g9.frozen 1
  have x1 : (w9.setCell ⟨g, 1, none⟩ (.slice V1 (n + 1) v1)).cell? ⟨g, 1, none⟩ = some (.slice V1 (n + 1) v1) := z1.cell 1
  refine hK.out _ _ ⟨_, rfl⟩ ?_
  clear hK K' hm hf ho fe fh fp fq fr bl z1 z2 z4 rx rxe he g8 bq g9
  try simp only [zB]
  refine takeA (i := 8) (oi := _) (v := .pointer (some ⟨g, 1, none⟩)) (some 48) rfl rfl (by kernel_rfl) (by kernel_rfl) (by kernel_rfl) (fun _ a b _ e h => by cases a; cases b; cases e; exact h) (Or.inl ⟨by rfl, ?z8⟩) ?rz8
  case z8 => intro w'; go_simp; try with_reducible rfl
  try simp only [zA]
  refine takeA (i := 9) (oi := _) (v := .pointer (some ⟨g, 1, none⟩)) (some 49) rfl rfl (by kernel_rfl) (by kernel_rfl) (by kernel_rfl) (fun _ a b _ e h => by cases a; cases b; cases e; exact h) (Or.inl ⟨by rfl, ?z9⟩) ?rz9
  case z9 => intro w'; go_simp; try with_reducible rfl
  try simp only [zA]
  refine oneA 10 (oi := _) none (by kernel_rfl) rfl rfl rfl (fun K' hK => ?_)
  have F := hK.out { tmps := _, defers := _ } (w9.setCell ⟨g, 1, none⟩ (.slice V1 (n + 1) v1)) ⟨undef, rfl⟩
  refine ⟨?_⟩
  rw [if_pos (by rfl)]
  go_simp
  refine F ?_
  clear F hK K' c1 f1
  refine wpAny_done (by kernel_rfl) ?_ _
  try simp only [zB]
  generalize w9.setCell ⟨g, 1, none⟩ (.slice V1 (n + 1) v1) = wz at *
  have a1_ : IntKind.i64.wrap (((n + 1 : Nat) : Int) - 1) = (n : Int) := by rw [IntWalk.i64_in _ (by omega)]; omega
  go_wp2_with fail
  go_ret2
  refine .inr ⟨E.out, ?_, _, Z1.out, ?_, ?_⟩
  · rw [← HN.out]; rfl
  · exact Z2.out
  · exact Z4.out
end Go.Proofs.YtlgdghpnfclgpaaGreat
