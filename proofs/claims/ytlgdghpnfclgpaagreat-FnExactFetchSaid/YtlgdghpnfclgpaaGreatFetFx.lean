/-
  FetLw; FetFx: No condition.
-/
import Derived.Test.YtlgdghpnfclgpaaGreatArgs
import Derived.Test.YtlgdghpnfclgpaaGreatSpFetch
import Derived.Test.YtlgdghpnfclgpaaGreatBVal
import Derived.Test.YtlgdghpnfclgpaaGreatRows
namespace Go.Proofs.YtlgdghpnfclgpaaGreat
set_option maxHeartbeats 16000000
set_option maxRecDepth 100000
set_option linter.unusedSimpArgs false
open Go.RowKit Go.WideShapes Go.ChangeAt
set_option linter.unusedVariables false
theorem rowEq {K K' : Nat} {l : List ByteArray} {u v : Value} {w : World} (h : RowT K w u l) (k : RowT K' w v l) (hl : l.length ≤ 512) :
 Calls Tryz.prog 19 #[u, v] w fun e w' => e = .returned (.bool true) ∧ Ext w w' := by
 obtain ⟨A, c, rfl, s⟩ := slf_own h
 obtain ⟨A', c', rfl, s'⟩ := slf_own k
 exact eqStringS_slf A A' c c' l w s.any s'.any (by omega)
theorem RowT.frm {K : Nat} {l : List ByteArray} {v : Value} {X : Nat → Prop} {w w' : World} (h : RowT K w v l) (f : Frm X w w') (hX : ∀ x, InBlock v x → ¬ X x) : RowT K w' v l := by
 unfold RowT at *
 exact f.own h hX
theorem RowT.lts {K : Nat} {l : List ByteArray} {v : Value} {w : World} (h : RowT K w v l) : ∀ x, InBlock v x → K ≤ x ∧ x < w.heap.size := fun x hx => World.ownsRow.lt h x hx
theorem RowT.lower {K K' : Nat} {l : List ByteArray} {v : Value} {w : World} (h : RowT K w v l) (hK : K' ≤ K) : RowT K' w v l := ownsRow_base h hK
theorem RowT.ne {K G t : Nat} {l : List ByteArray} {v : Value} {w : World} {cs : Array Value} (h : RowT K w v l) (hb : Blk w G t cs) (ht : t ≠ 9) : ¬ InBlock v G := fun hx => own_ne h hb ht _ hx rfl
theorem rowMark {K k : Nat} {l : List ByteArray} {v : Value} {w : World} (h : RowT K w v l) (hl : l.length ≤ 512) (hk : k ≤ 1000) :
 Calls Tryz.prog 22 #[v, .int .i64 (k : Int)] w fun e w' => e = .returned (.int .i64 ((k + l.length : Nat) : Int)) ∧ SMk w' v k l.length ∧ Frm (InBlock v) w w' := markStringS_row h (by omega) (by omega)
theorem lawFetch_walk (b : BrokerD) (t : ByteArray) (ix n : Int) (A0 : Option Addr) (a0 : Nat) (A1 : Option Addr) (a1 : Nat) (A2 : Option Addr) (a2 : Nat) (A3 : Option Addr) (a3 : Nat) (A4 : Option Addr) (a4 : Nat) (w : World) (hok : b.Ok) (s : BArg AnyB w b A0 a0 A1 a1 A2 a2 A3 a3 A4 a4) :
 Calls Tryz.prog 4 #[.agg (brkV b A0 a0 A1 a1 A2 a2 A3 a3 A4 a4).toArray, .string t, .int .i64 ix, .int .i64 n] w fun e w' => e = .returned (.bool true) ∧ Ext w w' := by
 by_cases ht : 1048576 < t.size
 · skip
   go_enter Tryz.func4, Tryz.ntmps4
   go_wp2_with fail
   go_ret
   exact ⟨rfl, Ext.new (Below.refl _ _) _⟩
 have SZ : Hid (∀ (W : World), Ext w W → Calls Tryz.prog 14 #[.agg (brkV b A0 a0 A1 a1 A2 a2 A3 a3 A4 a4).toArray, .int .i64 1048576] W fun e w' => e = .returned (.int .i64 (szL b.lens 1048576)) ∧ Ext W w') := hU (fun W hW => szBroker_any b A0 a0 A1 a1 A2 a2 A3 a3 A4 a4 1048576 W hok (s.ext hW).e (s.ext hW).r (s.ext hW).h (s.ext hW).u (s.ext hW).v (by decide) (by decide))
 obtain ⟨cs, hcs⟩ : ∃ cs, cs = (brkV b A0 a0 A1 a1 A2 a2 A3 a3 A4 a4) := ⟨_, rfl⟩
 have HL13 := hU (show cs.length = 13 by rw [hcs]; rfl)
 have RD : Hid (∀ (W : World), Ext w W → BRdL AnyB b cs W) := hU (fun W hW => ⟨A0, a0, A1, a1, A2, a2, A3, a3, A4, a4, hcs, s.ext hW⟩)
 have ok0 : ∀ x ∈ b.log.entries, x.Ok := hok.2.1
 have ok1 : ∀ x ∈ b.receipts, x.Ok := hok.2.2.1
 rw [← hcs] at SZ
 rw [← hcs]
 clear hcs s hok
 obtain ⟨l1, hl1⟩ : ∃ l1, l1 = szL b.lens 1048576 := ⟨_, rfl⟩
 rw [← hl1] at SZ
 have HL1 := hU hl1
 clear hl1
 have B1 := Blk.new w 43 cs.toArray
 have he := Ext.new (Below.refl w.heap.size w) (.cells cs.toArray 43)
 obtain ⟨g1, hg1⟩ : ∃ g1, g1 = w.heap.size := ⟨_, rfl⟩
 obtain ⟨w3, hw3⟩ : ∃ w3, w3 = w.alloc (.cells cs.toArray 43) := ⟨_, rfl⟩
 have HW3 := hU hw3
 rw [← hw3] at B1 he
 rw [← hg1] at B1
 have RX := hU (Blk.range B1)
 have G1 := hU hg1
 clear hw3 hg1
 by_cases c1 : l1 < 0
 · skip
   go_enter Tryz.func4, Tryz.ntmps4
   go_upto_region 3 with fail
   rw [← HW3.out, ← G1.out]
   go_wp2_with (refine wpList_load_mid rfl 43 _ rfl g1 0 rfl cs _ RX.out Tryz.underlying43 rfl (by rw [HL13.out]; kernel_rfl) ?_)
   refine (SZ.out _ he).mono ?_
   rintro e w4 ⟨rfl, h1⟩
   replace he := he.next h1; replace B1 := B1.ext h1
   clear h1
   go_wp2_with fail
   go_ret
   exact ⟨rfl, he⟩
 have HF : Hid (∀ n ∈ b.lens, n ≤ 1048576) := hU (szL_fit (left := 1048576) (by decide) (by decide) (by rw [← HL1.out]; exact c1))
 clear HL1
 go_enter Tryz.func4, Tryz.ntmps4
 go_upto_region 3 with fail
 rw [← HW3.out, ← G1.out]
 go_wp2_with (refine wpList_load_mid rfl 43 _ rfl g1 0 rfl cs _ RX.out Tryz.underlying43 rfl (by rw [HL13.out]; kernel_rfl) ?_)
 refine (SZ.out _ he).mono ?_
 rintro e w4 ⟨rfl, h1⟩
 replace he := he.next h1; replace B1 := B1.ext h1
 clear h1
 have TOB : Hid (∀ (W : World), Ext w W → Calls Tryz.prog 16 #[.agg cs.toArray] W fun e w' => ∃ M, e = .returned (.agg M.toArray) ∧ BVal W.heap.size b M w' ∧ Ext W w') := hU (fun W hW => bvTo (RD.out W hW) HF.out)
 have SP : Hid (∀ (W : World) (p : Nat → Prop) (L : List Value), BRdL p b L W → Calls Tryz.prog 15 #[.agg L.toArray, .string t, .int .i64 ix, .int .i64 n] W (FtAns (ftE b t ix n) (ftL b t ix n) (ftP b t ix n) (ftCode b t ix n) W)) := hU (fun W p L h => by
  obtain ⟨X0, x0, X1, x1, X2, x2, X3, x3, X4, x4, rfl, h2⟩ := h
  exact specFetch_any b t ix n X0 x0 X1 x1 X2 x2 X3 x3 X4 x4 W h2.any ok0 ok1 (lens_sz HF.out))
 have IM : Hid (∀ (W : World) (p : Nat → Prop) (L : List Value), BRdL p b L W → Calls Tryz.prog 17 #[.agg L.toArray, .string t, .int .i64 ix, .int .i64 n] W (FtAns (ftE b t ix n) (ftL b t ix n) (ftP b t ix n) (ftCode b t ix n) W)) := hU (fun W p L h => by
  obtain ⟨X0, x0, X1, x1, X2, x2, X3, x3, X4, x4, rfl, h2⟩ := h
  exact implFetch_any b t ix n X0 x0 X1 x1 X2 x2 X3 x3 X4 x4 W h2.any ok0 ok1 (lens_sz HF.out))
 have pl := ftP_len b t ix n
 obtain ⟨E0, hE0⟩ : ∃ E0, E0 = ftE b t ix n := ⟨_, rfl⟩
 obtain ⟨ll, hll⟩ : ∃ ll, ll = ftL b t ix n := ⟨_, rfl⟩
 obtain ⟨PP, hPP⟩ : ∃ PP, PP = ftP b t ix n := ⟨_, rfl⟩
 obtain ⟨cc, hcc⟩ : ∃ cc, cc = ftCode b t ix n := ⟨_, rfl⟩
 rw [← hE0, ← hll, ← hPP, ← hcc] at SP IM
 rw [← hPP] at pl
 have BLb := hU (lens_len HF.out)
 have bne : BrkN b ≤ 20000000 := by
  obtain ⟨h1, h2, h3, h4, h5⟩ := BLb.out
  unfold BrkN
  omega
 have ccn : ((cc : Int) != (cc : Int)) = false := by simp
 have lln : (ll != ll) = false := by simp
 have EQ : Hid (∀ (W : World), Calls Tryz.prog 18 #[.agg #[.string E0.topic, .int .i64 E0.index, .int .i64 E0.time, .string E0.key, .string E0.body], .agg #[.string E0.topic, .int .i64 E0.index, .int .i64 E0.time, .string E0.key, .string E0.body]] W fun e w' => e = .returned (.bool true) ∧ Ext W w') := hU (fun W => eqEntry_same E0 W)
 clear hE0 hll hPP hcc ok0 ok1
 clear SZ RX HW3 G1
 have RL := hU (Blk.range B1)
 go_wp2_with (refine wpList_load_mid rfl 43 _ rfl g1 0 rfl cs _ RL.out Tryz.underlying43 rfl (by rw [HL13.out]; kernel_rfl) ?_)
 refine (TOB.out _ he).mono ?_
 rintro e wY ⟨Y, rfl, hy, h1⟩
 replace he := he.next h1; replace B1 := B1.ext h1
 clear h1 RL
 go_wp2_with fail
 refine (SP.out _ _ _ hy.rd).mono ?_
 rintro e wZ ⟨v0, dd, hdd, rfl, hu, h1⟩
 replace hdd := hdd.symm
 subst hdd
 replace he := he.next h1; replace B1 := B1.ext h1
 clear h1 hy
 have hx2 := Ext.new (Below.refl wZ.heap.size wZ) (.cells #[.string E0.topic, .int .i64 E0.index, .int .i64 E0.time, .string E0.key, .string E0.body] 46)
 have Q0 := Blk.new wZ 46 #[.string E0.topic, .int .i64 E0.index, .int .i64 E0.time, .string E0.key, .string E0.body]
 have HU := hU hu
 clear hu
 have HUU := hU (show RowT _ (wZ.alloc (.cells #[.string E0.topic, .int .i64 E0.index, .int .i64 E0.time, .string E0.key, .string E0.body] 46)) v0 PP from HU.out.ext hx2)
 replace he := he.next hx2; replace B1 := B1.ext hx2
 clear hx2 HU
 go_upto_region 8 with fail
 obtain ⟨q0, hg⟩ : ∃ q0, q0 = wZ.heap.size := ⟨_, rfl⟩
 rw [← hg] at Q0
 rw [← hg]
 obtain ⟨w8, hwn⟩ : ∃ wn, wn = wZ.alloc (.cells #[.string E0.topic, .int .i64 E0.index, .int .i64 E0.time, .string E0.key, .string E0.body] 46) := ⟨_, rfl⟩
 rw [← hwn] at HUU B1 he Q0
 rw [← hwn]
 clear hwn hg
 have V0 := hU (show RowT 0 w8 v0 PP from HUU.out.lower (Nat.zero_le _))
 obtain ⟨N8, hN8⟩ : ∃ N8, N8 = w8.heap.size := ⟨_, rfl⟩
 have LV0 := hU (show ∀ x, InBlock v0 x → x < N8 from fun x hx => by rw [hN8]; exact (V0.out.lts x hx).2)
 have q0N : q0 < N8 := by rw [hN8]; exact Q0.lt
 have g1N : g1 < N8 := by rw [hN8]; exact B1.lt
 have wN : w.heap.size ≤ N8 := by rw [hN8]; exact he.size
 clear HUU SP
 have RX := hU (Blk.range B1)
 go_wp2_with (refine wpList_load_mid rfl 43 _ rfl g1 0 rfl cs _ RX.out Tryz.underlying43 rfl (by rw [HL13.out]; kernel_rfl) ?_)
 refine (TOB.out _ he).mono ?_
 rintro e w9 ⟨X, rfl, hx, h1⟩
 rw [← hN8] at hx
 replace he := he.next h1; replace B1 := B1.ext h1; replace Q0 := Q0.ext h1; replace V0 := hU (V0.out.ext h1)
 have h89 := h1.size
 clear h1 RX
 have KZ := Blk.new w9 59 #[.int .i64 0, .slice none 0 0, .slice none 0 0, .slice none 0 0, .int .i64 0, .slice none 0 0, .int .i64 0, .slice none 0 0, .int .i64 0, .int .i64 0, .string ⟨#[]⟩, .int .i64 0, .string ⟨#[]⟩]
 obtain ⟨w10, hwa, K9, hx2⟩ : ∃ wa, wa = (w9.alloc (.cells #[.int .i64 0, .slice none 0 0, .slice none 0 0, .slice none 0 0, .int .i64 0, .slice none 0 0, .int .i64 0, .slice none 0 0, .int .i64 0, .int .i64 0, .string ⟨#[]⟩, .int .i64 0, .string ⟨#[]⟩] 59)).setCells w9.heap.size 0 X ∧ Blk wa w9.heap.size 59 X.toArray ∧ Ext w9 wa := ⟨_, rfl, put_whole KZ X (by rw [hx.len]; rfl), ext_setCells (W := w9) (Nat.le_refl _) X 0 _ (Ext.new (Below.refl _ _) _)⟩
 have T4 := hU (show World.there (w9.alloc (.cells #[.int .i64 0, .slice none 0 0, .slice none 0 0, .slice none 0 0, .int .i64 0, .slice none 0 0, .int .i64 0, .slice none 0 0, .int .i64 0, .int .i64 0, .string ⟨#[]⟩, .int .i64 0, .string ⟨#[]⟩] 59)) w9.heap.size 0 X.length by rw [hx.len]; exact KZ.there 0 13 (by simp)); have HW := hU hwa
 have HX13 := hU hx.len; have HX1 := hU hx.one
 clear hwa KZ
 replace he := he.next hx2; replace B1 := B1.ext hx2; replace Q0 := Q0.ext hx2; replace V0 := hU (V0.out.ext hx2)
 have K9a := K9.lt
 go_upto_region 9 with (refine wpList_store_list rfl 59 _ _ rfl rfl w9.heap.size 0 X rfl rfl T4.out (by rw [HX13.out]; kernel_rfl) HX1.out ?_; rw [← HW.out])
 obtain ⟨k9, hg⟩ : ∃ k9, k9 = w9.heap.size := ⟨_, rfl⟩
 rw [← hg] at K9
 rw [← hg]
 rw [← hg] at K9a
 have LX := hU (show ∀ x, LBlk X x → N8 ≤ x ∧ x < k9 from fun x h => by have h2 := hx.lt x h; rw [← hg] at h2; exact h2)
 have HX := hU (hx.ext hx2)
 have kN : N8 ≤ k9 := by rw [hg, hN8]; exact h89
 clear T4 HW HX1 hx hx2 hg hN8
 have RL := hU (Blk.range K9)
 go_wp2_with (refine wpList_load_mid rfl 59 _ rfl k9 0 rfl X _ RL.out Tryz.underlying59 rfl (by rw [HX13.out]; kernel_rfl) ?_)
 refine (IM.out _ _ _ HX.out.rd).mono ?_
 rintro e wZ ⟨v1, dd, hdd, rfl, hu, h1⟩
 replace hdd := hdd.symm
 subst hdd
 replace he := he.next h1; replace B1 := B1.ext h1; replace Q0 := Q0.ext h1; replace V0 := hU (V0.out.ext h1); replace K9 := K9.ext h1; replace HX := hU (HX.out.ext h1)
 have Q1N := K9.lt
 clear h1 RL
 have hx2 := Ext.new (Below.refl wZ.heap.size wZ) (.cells #[.string E0.topic, .int .i64 E0.index, .int .i64 E0.time, .string E0.key, .string E0.body] 46)
 have Q1 := Blk.new wZ 46 #[.string E0.topic, .int .i64 E0.index, .int .i64 E0.time, .string E0.key, .string E0.body]
 have HU := hU hu
 clear hu
 have HUU := hU (show RowT _ (wZ.alloc (.cells #[.string E0.topic, .int .i64 E0.index, .int .i64 E0.time, .string E0.key, .string E0.body] 46)) v1 PP from HU.out.ext hx2)
 replace he := he.next hx2; replace B1 := B1.ext hx2; replace Q0 := Q0.ext hx2; replace V0 := hU (V0.out.ext hx2); replace K9 := K9.ext hx2; replace HX := hU (HX.out.ext hx2)
 clear hx2 HU
 go_upto_region 10 with fail
 obtain ⟨q1, hg⟩ : ∃ q1, q1 = wZ.heap.size := ⟨_, rfl⟩
 rw [← hg] at Q1
 rw [← hg]
 obtain ⟨w11, hwn⟩ : ∃ wn, wn = wZ.alloc (.cells #[.string E0.topic, .int .i64 E0.index, .int .i64 E0.time, .string E0.key, .string E0.body] 46) := ⟨_, rfl⟩
 rw [← hwn] at HUU B1 he Q1
 rw [← hwn]
 rw [← hg] at Q1N
 rw [← hwn] at Q0 V0 K9 HX
 clear hwn hg
 obtain ⟨N10, hN10⟩ : ∃ N10, N10 = w10.heap.size := ⟨_, rfl⟩
 rw [← hN10] at HUU
 have V1 := hU HUU.out
 have LV1 := hU V1.out.lts
 have k9N : k9 < N10 := by rw [hN10]; exact K9a
 have N1 := hU (V1.out.ne Q1 (by decide))
 clear HUU hN10
 obtain ⟨r0, f0⟩ := Q0.rules
 obtain ⟨r1, f1⟩ := Q1.rules
 go_wp2_with fail
 refine (EQ.out _).mono ?_
 rintro e w12 ⟨rfl, h1⟩
 replace he := he.next h1; replace B1 := B1.ext h1; replace Q0 := Q0.ext h1; replace V0 := hU (V0.out.ext h1); replace K9 := K9.ext h1; replace HX := hU (HX.out.ext h1); replace Q1 := Q1.ext h1; replace V1 := hU (V1.out.ext h1)
 clear h1 r0 f0 r1 f1
 go_wp2_with fail
 refine (rowEq V1.out V0.out pl).mono ?_
 rintro e w13 ⟨rfl, h1⟩
 replace he := he.next h1; replace B1 := B1.ext h1; replace Q0 := Q0.ext h1; replace V0 := hU (V0.out.ext h1); replace K9 := K9.ext h1; replace HX := hU (HX.out.ext h1); replace Q1 := Q1.ext h1; replace V1 := hU (V1.out.ext h1)
 clear h1
 go_upto_region 12 with fail
 refine wp_region_held_drew (S := fun w' => Ext w13 w') (by kernel_rfl) (Below.refl _ _).drew (fun hH => ?_)
 refine wpAnyH_take (i := 0) (oi := _) (v := _) rfl (by kernel_rfl) (by kernel_rfl) (by kernel_rfl) (fun _ _ _ h => h) (yieldsIf_load_mid (by rfl) 59 _ rfl k9 0 rfl X _ (fun w' h => Blk.range (K9.ext h)) Tryz.underlying59 rfl (by rw [HX13.out]; kernel_rfl)) hH ?_
 try simp only [zB]
 refine wpAnyH_take (i := 1) (oi := _) (v := _) rfl (by kernel_rfl) (by kernel_rfl) (by kernel_rfl) (fun _ _ _ h => h) (yieldsIf_load_mid (by rfl) 43 _ rfl g1 0 rfl cs _ (fun w' h => Blk.range (B1.ext h)) Tryz.underlying43 rfl (by rw [HL13.out]; kernel_rfl)) hH ?_
 try simp only [zB]
 refine oneH 2 (oi := _) (some 79) (by kernel_rfl) rfl rfl rfl (fun K' hK => ?_)
 refine ⟨?_⟩
 rw [if_pos (by rfl)]
 go_simp
 refine (TOB.out _ (he.next hH)).mono ?_
 rintro e w14 ⟨Z, rfl, hz, h1⟩
 have HZ := hU hz
 clear hz
 refine hK.out _ _ ⟨_, rfl⟩ (hH.next h1) (fun hH2 => ?_)
 clear hK K' hH h1
 have hH := hH2
 clear hH2
 try simp only [zB]
 refine oneH 3 (oi := _) (some 80) (by kernel_rfl) rfl rfl rfl (fun K' hK => ?_)
 refine ⟨?_⟩
 rw [if_pos (by rfl)]
 go_simp
 refine (bvEq (HX.out.ext hH).rd HZ.out.rd HF.out).mono ?_
 rintro e w15 ⟨rfl, h1⟩
 refine hK.out _ _ ⟨_, rfl⟩ (hH.next h1) (fun hH2 => ?_)
 clear hK K' hH h1
 have hH := hH2
 clear hH2
 try simp only [zB]
 refine takeQ 4 (.bool false) (some 81) rfl rfl (by kernel_rfl) (Or.inl ⟨by rfl, ?yh1⟩) hH ?rh1
 case yh1 => intro w' hS'; go_simp; try with_reducible rfl
 try simp only [zA]
 have h1 := hH
 clear hH HZ
 refine wpAnyH_done (by kernel_rfl) ?_ _
 replace he := he.next h1; replace B1 := B1.ext h1; replace Q0 := Q0.ext h1; replace V0 := hU (V0.out.ext h1); replace K9 := K9.ext h1; replace HX := hU (HX.out.ext h1); replace Q1 := Q1.ext h1; replace V1 := hU (V1.out.ext h1)
 clear h1
 have RX := hU (Blk.range K9)
 go_wp2_with (refine wpList_load_mid rfl 59 _ rfl k9 0 rfl X _ RX.out Tryz.underlying59 rfl (by rw [HX13.out]; kernel_rfl) ?_)
 refine (bvMark (k := 1) HX.out BLb.out (by decide)).mono ?_
 rintro e w16 ⟨rfl, _, f1⟩
 replace he : Ext w w16 := f1.toExt he (fun y hy e => by have := (LX.out _ e).1; omega)
 replace B1 := f1.blk B1 (fun e => by have := (LX.out _ e).1; omega); replace Q0 := f1.blk Q0 (fun e => by have := (LX.out _ e).1; omega)
 replace Q1 := f1.blk Q1 (fun e => by have := (LX.out _ e).2; have := Q1N; omega)
 replace V0 := hU (V0.out.frm f1 (fun y hy e => by have := (LX.out _ e).1; have := LV0.out _ hy; omega))
 replace V1 := hU (V1.out.frm f1 (fun y hy e => by have := (LX.out _ e).2; have := (LV1.out _ hy).1; omega))
 obtain ⟨k1, hk1⟩ : ∃ k1, k1 = 1 + BrkN b := ⟨_, rfl⟩
 rw [← hk1]
 have qk : (0 : Int) ≤ (k1 : Int) := by omega
 clear f1 RX HX K9 hk1
 obtain ⟨r0, f0⟩ := Q0.rules
 obtain ⟨r1, f1⟩ := Q1.rules
 go_wp2_with fail
 refine (EQ.out _).mono ?_
 rintro e w17 ⟨rfl, h1⟩
 replace he := he.next h1; replace B1 := B1.ext h1; replace Q0 := Q0.ext h1; replace V0 := hU (V0.out.ext h1); replace Q1 := Q1.ext h1; replace V1 := hU (V1.out.ext h1)
 clear h1 r0 f0 r1 f1
 go_wp2_with fail
 refine (rowEq V1.out V0.out pl).mono ?_
 rintro e w18 ⟨rfl, h1⟩
 replace he := he.next h1; replace B1 := B1.ext h1; replace Q0 := Q0.ext h1; replace V0 := hU (V0.out.ext h1); replace Q1 := Q1.ext h1; replace V1 := hU (V1.out.ext h1)
 clear h1
 go_wp2_with fail
 refine (rowMark (k := 1) V1.out pl (by decide)).mono ?_
 rintro e w20 ⟨rfl, mk, f1⟩
 replace he : Ext w w20 := f1.toExt he (fun y hy e => by have := (LV1.out _ e).1; omega)
 replace B1 := f1.blk B1 (fun e => by have := (LV1.out _ e).1; omega); replace Q0 := f1.blk Q0 (fun e => by have := (LV1.out _ e).1; omega)
 replace V0 := hU (V0.out.frm f1 (fun y hy e => by have := (LV1.out _ e).1; have := LV0.out _ hy; omega))
 have MK := hU mk
 clear f1 mk V1 Q1 N1
 obtain ⟨m1, hm1⟩ : ∃ m1, m1 = 1 + PP.length := ⟨_, rfl⟩
 have HS : Hid (∀ (u : World), SMk u v1 1 PP.length → Calls Tryz.prog 23 #[v1, .int .i64 1] u fun e w' => e = .returned (.int .i64 (m1 : Int)) ∧ Ext u w') := hU (fun u h => by rw [hm1]; exact heldStringS_row (k := 1) h (by omega) (by decide))
 rw [← hm1]
 have q9 : (0 : Int) ≤ (m1 : Int) := by omega
 have mne : ((m1 : Int) != (m1 : Int)) = false := by simp
 clear hm1
 go_wp2_with fail
 refine (HS.out _ MK.out).mono ?_
 rintro e w22 ⟨rfl, h1⟩
 replace he := he.next h1; replace B1 := B1.ext h1; replace Q0 := Q0.ext h1; replace V0 := hU (V0.out.ext h1); replace MK := hU (MK.out.ext h1)
 clear h1
 have RL := hU (Blk.range B1)
 go_wp2_with (refine wpList_load_mid rfl 43 _ rfl g1 0 rfl cs _ RL.out Tryz.underlying43 rfl (by rw [HL13.out]; kernel_rfl) ?_)
 refine (TOB.out _ he).mono ?_
 rintro e wY ⟨Y, rfl, hy, h1⟩
 replace he := he.next h1; replace B1 := B1.ext h1; replace Q0 := Q0.ext h1; replace V0 := hU (V0.out.ext h1); replace MK := hU (MK.out.ext h1)
 clear h1 RL
 go_wp2_with fail
 refine (IM.out _ _ _ hy.rd).mono ?_
 rintro e wZ ⟨v2, dd, hdd, rfl, hu, h1⟩
 replace hdd := hdd.symm
 subst hdd
 replace he := he.next h1; replace B1 := B1.ext h1; replace Q0 := Q0.ext h1; replace V0 := hU (V0.out.ext h1); replace MK := hU (MK.out.ext h1)
 clear h1 hy
 have hx2 := Ext.new (Below.refl wZ.heap.size wZ) (.cells #[.string E0.topic, .int .i64 E0.index, .int .i64 E0.time, .string E0.key, .string E0.body] 46)
 have Q2 := Blk.new wZ 46 #[.string E0.topic, .int .i64 E0.index, .int .i64 E0.time, .string E0.key, .string E0.body]
 have HU := hU hu
 clear hu
 have HUU := hU (show RowT _ (wZ.alloc (.cells #[.string E0.topic, .int .i64 E0.index, .int .i64 E0.time, .string E0.key, .string E0.body] 46)) v2 PP from HU.out.ext hx2)
 replace he := he.next hx2; replace B1 := B1.ext hx2; replace Q0 := Q0.ext hx2; replace V0 := hU (V0.out.ext hx2); replace MK := hU (MK.out.ext hx2)
 clear hx2 HU
 go_upto_region 27 with fail
 obtain ⟨q2, hg⟩ : ∃ q2, q2 = wZ.heap.size := ⟨_, rfl⟩
 rw [← hg] at Q2
 rw [← hg]
 obtain ⟨w24, hwn⟩ : ∃ wn, wn = wZ.alloc (.cells #[.string E0.topic, .int .i64 E0.index, .int .i64 E0.time, .string E0.key, .string E0.body] 46) := ⟨_, rfl⟩
 rw [← hwn] at HUU B1 he Q2
 rw [← hwn]
 rw [← hwn] at Q0 V0 MK
 clear hwn hg
 have V2 := hU HUU.out
 clear HUU
 obtain ⟨r0, f0⟩ := Q0.rules
 obtain ⟨r1, f1⟩ := Q2.rules
 go_wp2_with fail
 refine (EQ.out _).mono ?_
 rintro e w25 ⟨rfl, h1⟩
 replace he := he.next h1; replace B1 := B1.ext h1; replace Q0 := Q0.ext h1; replace V0 := hU (V0.out.ext h1); replace MK := hU (MK.out.ext h1); replace Q2 := Q2.ext h1; replace V2 := hU (V2.out.ext h1)
 clear h1 r0 f0 r1 f1
 go_wp2_with fail
 refine (rowEq V2.out V0.out pl).mono ?_
 rintro e w26 ⟨rfl, h1⟩
 replace he := he.next h1; replace B1 := B1.ext h1; replace Q0 := Q0.ext h1; replace V0 := hU (V0.out.ext h1); replace MK := hU (MK.out.ext h1); replace Q2 := Q2.ext h1; replace V2 := hU (V2.out.ext h1)
 clear h1
 go_wp2_with fail
 refine (HS.out _ MK.out).mono ?_
 rintro e w27 ⟨rfl, h1⟩
 replace he := he.next h1; replace B1 := B1.ext h1; replace MK := hU (MK.out.ext h1)
 clear h1
 go_wp2_with fail
 go_ret
 exact ⟨rfl, he⟩
end Go.Proofs.YtlgdghpnfclgpaaGreat
namespace Go.Proofs.YtlgdghpnfclgpaaGreat
set_option maxHeartbeats 40000000
set_option maxRecDepth 100000
theorem and_two3 {a b : Bool} (h1 : a = true) (h2 : b = true) : (a && b) = true := by rw [h1, h2]; rfl
theorem ftFacts : joinedFacts Tryz.pinned.checked.prog 4 Tryz.f4 Rows.fnExactFetchSpec Rows.fnExactFetchRow = true := by
 unfold joinedFacts
 repeat' (with_reducible refine and_two3 ?_ ?_)
 all_goals (as_aux_lemma => kernel_rfl)
end Go.Proofs.YtlgdghpnfclgpaaGreat
