/-
  PubLw; PubFx: No condition.
-/
import Derived.Test.YtlgdghpnfclgpaaGreatMem
import Derived.Test.YtlgdghpnfclgpaaGreatPubA
import Derived.Test.YtlgdghpnfclgpaaGreatPubT
import Derived.Test.YtlgdghpnfclgpaaGreatBVal
import Derived.Test.YtlgdghpnfclgpaaGreatRows
namespace Go.Proofs.YtlgdghpnfclgpaaGreat
set_option maxHeartbeats 16000000
set_option maxRecDepth 100000
set_option linter.unusedSimpArgs false
open Go.RowKit Go.WideShapes Go.ChangeAt
set_option linter.unusedVariables false
theorem pb_room {b : BrokerD} {d : EntryD} (h : pbCode b d = 0) : brokerB b = true ∧ b.log.entries.length < 512 := by
 unfold pbCode at h
 cases hB : brokerB b
 · rw [hB] at h; simp at h
 · rw [hB, if_pos rfl] at h
   exact ⟨rfl, (ad_good h).2.2⟩
theorem pb_lens {b : BrokerD} {d : EntryD} (hb : ∀ n ∈ b.lens, n ≤ 1048576) (h1 : d.topic.size ≤ 1048576) (h2 : d.key.size ≤ 1048576) (h3 : d.body.size ≤ 1048576) : ∀ n ∈ (pbB b d).lens, n ≤ 1048576 := by
 unfold pbB
 by_cases h : pbCode b d = 0
 · rw [if_pos h]
   obtain ⟨hB, hl⟩ := pb_room h
   intro k hk
   simp only [BrokerD.lens, LogD.lens, List.mem_append, List.mem_cons, List.mem_flatMap, List.not_mem_nil, or_false] at hk hb
   rcases hk with (rfl | ⟨x, hx, hk⟩) | hk
   · have : (pbB0 b d).log.entries.length = b.log.entries.length + 1 := by simp [pbB0]
     omega
   · have hx' : x ∈ b.log.entries ++ [pbNew b d] := hx
     rcases List.mem_append.1 hx' with hx | hx
     · exact hb _ (.inl (.inr ⟨x, hx, hk⟩))
     · rw [List.mem_singleton.1 hx] at hk
       simp only [EntryD.lens, pbNew, addNew, List.mem_cons, List.not_mem_nil, or_false] at hk
       rcases hk with rfl | rfl | rfl <;> assumption
   · exact hb _ (.inr hk)
 · rw [if_neg h]
   intro k hk
   simp [noB, BrokerD.lens, LogD.lens, SealD.lens, RangeD.lens, HeadD.lens, hz] at hk
   have h0 : (⟨#[]⟩ : ByteArray).size = 0 := rfl
   omega
theorem pb_wlen (b : BrokerD) (d : EntryD) : (pbW b d).length ≤ 3 := by
 unfold pbW; split <;> simp
def Ans4 (B : BrokerD) (W : List WriteD) (l c : Nat) (w : World) (e : Ending) (w' : World) : Prop :=
 ∃ L v, e = .returned (.tuple #[.agg L.toArray, v, .int .i64 (l : Int), .int .i64 (c : Int)]) ∧ BVal w.heap.size B L w' ∧ WVal w.heap.size W v w' ∧ Ext w w'
theorem Ans4.of {B : BrokerD} {W : List WriteD} {l c : Nat} {w w' : World} {e : Ending} (h : BrAns4 B W l c w e w') : Ans4 B W l c w e w' := by
 obtain ⟨ve, vr, vh, v1, v2, vw, h1, h2, h3, h4, h5⟩ := h
 obtain ⟨X0, x0, rfl, _⟩ := ownsRow_form h2.e
 obtain ⟨X1, x1, rfl, _⟩ := ownsRow_form h2.r
 obtain ⟨X2, x2, rfl, _⟩ := ownsRow_form h2.h
 obtain ⟨X3, x3, rfl, _⟩ := ownsRow_form h2.p
 obtain ⟨X4, x4, rfl, _⟩ := ownsRow_form h2.q
 exact ⟨_, vw, h1, ⟨X0, x0, X1, x1, X2, x2, X3, x3, X4, x4, rfl, h2, h3⟩, h4, h5⟩
theorem BVal.base {K K' : Nat} {B : BrokerD} {L : List Value} {w : World} (h : BVal K B L w) (hK : K' ≤ K) : BVal K' B L w := by
 obtain ⟨X0, x0, X1, x1, X2, x2, X3, x3, X4, x4, h1, h2, h3⟩ := h
 exact ⟨X0, x0, X1, x1, X2, x2, X3, x3, X4, x4, h1, ⟨ownsRow_base h2.e hK, ownsRow_base h2.r hK, ownsRow_base h2.h hK, ownsRow_base h2.p hK, ownsRow_base h2.q hK⟩, h3⟩
theorem BVal.put {K G : Nat} {B : BrokerD} {L : List Value} {w : World} {cs : Array Value} (h : BVal K B L w) (hb : Blk w G 59 cs) (vs : List Value) (o : Nat) : BVal K B L (w.setCells G o vs) := by
 obtain ⟨X0, x0, X1, x1, X2, x2, X3, x3, X4, x4, h1, h2, h3⟩ := h
 exact ⟨X0, x0, X1, x1, X2, x2, X3, x3, X4, x4, h1, ⟨row_put h2.e hb (by decide) vs o, row_put h2.r hb (by decide) vs o, row_put h2.h hb (by decide) vs o, row_put h2.p hb (by decide) vs o, row_put h2.q hb (by decide) vs o⟩, h3⟩
theorem BVal.ne {K G : Nat} {B : BrokerD} {L : List Value} {w : World} {cs : Array Value} (h : BVal K B L w) (hb : Blk w G 59 cs) : ¬ LBlk L G := fun hx => by
 obtain ⟨X0, x0, X1, x1, X2, x2, X3, x3, X4, x4, rfl, h2, h3⟩ := h
 rcases lblk_cells hx with h | h | h | h | h
 · exact own_ne h2.e hb (by decide) _ h rfl
 · exact own_ne h2.r hb (by decide) _ h rfl
 · exact own_ne h2.h hb (by decide) _ h rfl
 · exact own_ne h2.p hb (by decide) _ h rfl
 · exact own_ne h2.q hb (by decide) _ h rfl
theorem WVal.base {K K' : Nat} {W : List WriteD} {v : Value} {w : World} (h : WVal K W v w) (hK : K' ≤ K) : WVal K' W v w := ownsRow_base h hK
theorem WVal.ext {K : Nat} {W : List WriteD} {v : Value} {w w' : World} (h : WVal K W v w) (he : Ext w w') : WVal K W v w' := ownsRow_ext h he
theorem WVal.put {K G : Nat} {W : List WriteD} {v : Value} {w : World} {cs : Array Value} (h : WVal K W v w) (hb : Blk w G 59 cs) (vs : List Value) (o : Nat) : WVal K W v (w.setCells G o vs) := row_put h hb (by decide) vs o
theorem WVal.ne {K G : Nat} {W : List WriteD} {v : Value} {w : World} {cs : Array Value} (h : WVal K W v w) (hb : Blk w G 59 cs) : ¬ InBlock v G := fun hx => own_ne h hb (by decide) _ hx rfl
theorem WVal.lt {K : Nat} {W : List WriteD} {v : Value} {w : World} (h : WVal K W v w) : ∀ x, InBlock v x → K ≤ x ∧ x < w.heap.size := fun x hx => World.ownsRow.lt h x hx
theorem WVal.frm {K : Nat} {W : List WriteD} {v : Value} {X : Nat → Prop} {w w' : World} (h : WVal K W v w) (f : Frm X w w') (hX : ∀ x, InBlock v x → ¬ X x) : WVal K W v w' := by
 unfold WVal at *
 exact f.own h hX
theorem bwMark {K k : Nat} {W : List WriteD} {v : Value} {w : World} (h : WVal K W v w) (hl : W.length ≤ 3) (hk : k ≤ 1000000000) :
 Calls Tryz.prog 28 #[v, .int .i64 (k : Int)] w fun e w' => e = .returned (.int .i64 ((k + W.length * 3 : Nat) : Int)) ∧ FMk WriteD.cells 3 WriteD.mkL w' v k W.length ∧ Frm (InBlock v) w w' :=
 markWriteS_row (k := k) (a := W) h (by omega) (by omega)
theorem bwHeld {k : Nat} {W : List WriteD} {v : Value} {w : World} (h : FMk WriteD.cells 3 WriteD.mkL w v k W.length) (hl : W.length ≤ 3) (hk : k ≤ 1000000000) :
 Calls Tryz.prog 30 #[v, .int .i64 (k : Int)] w fun e w' => e = .returned (.int .i64 ((k + W.length * 3 : Nat) : Int)) ∧ Ext w w' := by
 obtain ⟨A, c', rfl, s⟩ := h
 exact heldWriteS_any A W.length c' k w s.reads (by omega) (by omega)
theorem lawPublish_walk (b : BrokerD) (tp : ByteArray) (tm : Int) (ky bd : ByteArray) (A0 : Option Addr) (a0 : Nat) (A1 : Option Addr) (a1 : Nat) (A2 : Option Addr) (a2 : Nat) (A3 : Option Addr) (a3 : Nat) (A4 : Option Addr) (a4 : Nat) (w : World) (hok : b.Ok) (hd : EntryD.Ok ⟨tp, 0, tm, ky, bd⟩) (s : BArg AnyB w b A0 a0 A1 a1 A2 a2 A3 a3 A4 a4) :
 Calls Tryz.prog 7 #[.agg (brkV b A0 a0 A1 a1 A2 a2 A3 a3 A4 a4).toArray, .string tp, .int .i64 tm, .string ky, .string bd] w fun e w' => e = .returned (.bool true) ∧ Ext w w' := by
 have hd' := hd
 obtain ⟨m1_, _, m2_, m3_, m4_⟩ := hd'
 simp only at m1_ m2_ m3_ m4_
 unfold maxLen at m1_ m3_ m4_
 by_cases s0 : 1048576 < tp.size
 · skip
   go_enter Tryz.func7, Tryz.ntmps7
   go_wp2_with fail
   go_ret
   exact ⟨rfl, Ext.new (Below.refl _ _) _⟩
 by_cases s1 : 1048576 < ky.size
 · skip
   go_enter Tryz.func7, Tryz.ntmps7
   go_wp2_with fail
   go_ret
   exact ⟨rfl, Ext.new (Below.refl _ _) _⟩
 by_cases s2 : 1048576 < bd.size
 · skip
   go_enter Tryz.func7, Tryz.ntmps7
   go_wp2_with fail
   go_ret
   exact ⟨rfl, Ext.new (Below.refl _ _) _⟩
 have HDD := hU hd
 clear hd
 have SZ : Hid (∀ (W : World), Ext w W → Calls Tryz.prog 14 #[.agg (brkV b A0 a0 A1 a1 A2 a2 A3 a3 A4 a4).toArray, .int .i64 1048576] W fun e w' => e = .returned (.int .i64 (szL b.lens 1048576)) ∧ Ext W w') := hU (fun W hW => szBroker_any b A0 a0 A1 a1 A2 a2 A3 a3 A4 a4 1048576 W hok (s.ext hW).e (s.ext hW).r (s.ext hW).h (s.ext hW).u (s.ext hW).v (by decide) (by decide))
 obtain ⟨cs, hcs⟩ : ∃ cs, cs = (brkV b A0 a0 A1 a1 A2 a2 A3 a3 A4 a4) := ⟨_, rfl⟩
 have HL13 := hU (show cs.length = 13 by rw [hcs]; rfl)
 have RD : Hid (∀ (W : World), Ext w W → BRdL AnyB b cs W) := hU (fun W hW => ⟨A0, a0, A1, a1, A2, a2, A3, a3, A4, a4, hcs, s.ext hW⟩)
 have ok0 : ∀ x ∈ b.log.entries, x.Ok := hok.2.1
 have ok1 : ∀ x ∈ b.receipts, x.Ok := hok.2.2.1
 rw [← hcs] at SZ
 rw [← hcs]
 clear hcs s hok
 obtain ⟨l1, hl1⟩ : ∃ l1, l1 = szL b.lens 1048576 := ⟨_, rfl⟩
 rw [← hl1] at SZ
 have HL1 := hU hl1
 clear hl1
 have B1 := Blk.new w 43 cs.toArray
 have he := Ext.new (Below.refl w.heap.size w) (.cells cs.toArray 43)
 obtain ⟨g1, hg1⟩ : ∃ g1, g1 = w.heap.size := ⟨_, rfl⟩
 obtain ⟨w3, hw3⟩ : ∃ w3, w3 = w.alloc (.cells cs.toArray 43) := ⟨_, rfl⟩
 have HW3 := hU hw3
 rw [← hw3] at B1 he
 rw [← hg1] at B1
 have RX := hU (Blk.range B1)
 have G1 := hU hg1
 clear hw3 hg1
 by_cases c1 : l1 < 0
 · skip
   go_enter Tryz.func7, Tryz.ntmps7
   go_upto_region 7 with fail
   rw [← HW3.out, ← G1.out]
   go_wp2_with (refine wpList_load_mid rfl 43 _ rfl g1 0 rfl cs _ RX.out Tryz.underlying43 rfl (by rw [HL13.out]; kernel_rfl) ?_)
   refine (SZ.out _ he).mono ?_
   rintro e w4 ⟨rfl, h1⟩
   replace he := he.next h1; replace B1 := B1.ext h1
   clear h1
   go_wp2_with fail
   go_ret
   exact ⟨rfl, he⟩
 have HF : Hid (∀ n ∈ b.lens, n ≤ 1048576) := hU (szL_fit (left := 1048576) (by decide) (by decide) (by rw [← HL1.out]; exact c1))
 clear HL1
 go_enter Tryz.func7, Tryz.ntmps7
 go_upto_region 7 with fail
 rw [← HW3.out, ← G1.out]
 go_wp2_with (refine wpList_load_mid rfl 43 _ rfl g1 0 rfl cs _ RX.out Tryz.underlying43 rfl (by rw [HL13.out]; kernel_rfl) ?_)
 refine (SZ.out _ he).mono ?_
 rintro e w4 ⟨rfl, h1⟩
 replace he := he.next h1; replace B1 := B1.ext h1
 clear h1
 have TOB : Hid (∀ (W : World), Ext w W → Calls Tryz.prog 16 #[.agg cs.toArray] W fun e w' => ∃ M, e = .returned (.agg M.toArray) ∧ BVal W.heap.size b M w' ∧ Ext W w') := hU (fun W hW => bvTo (RD.out W hW) HF.out)
 have SP : Hid (∀ (W : World) (p : Nat → Prop) (L : List Value), BRdL p b L W → Calls Tryz.prog 35 #[.agg L.toArray, .string tp, .int .i64 tm, .string ky, .string bd] W (Ans4 (pbB b ⟨tp, 0, tm, ky, bd⟩) (pbW b ⟨tp, 0, tm, ky, bd⟩) (pbL b ⟨tp, 0, tm, ky, bd⟩) (pbCode b ⟨tp, 0, tm, ky, bd⟩) W)) := hU (fun W p L h => by
  obtain ⟨X0, x0, X1, x1, X2, x2, X3, x3, X4, x4, rfl, h2⟩ := h
  exact (specPublish_any b ⟨tp, 0, tm, ky, bd⟩ X0 x0 X1 x1 X2 x2 X3 x3 X4 x4 W h2.any ok0 ok1 (lens_sz HF.out) HDD.out).mono (fun e w' h => Ans4.of h))
 have IM : Hid (∀ (W : World) (p : Nat → Prop) (L : List Value), BRdL p b L W → Calls Tryz.prog 36 #[.agg L.toArray, .string tp, .int .i64 tm, .string ky, .string bd] W (Ans4 (pbB b ⟨tp, 0, tm, ky, bd⟩) (pbW b ⟨tp, 0, tm, ky, bd⟩) (pbL b ⟨tp, 0, tm, ky, bd⟩) (pbCode b ⟨tp, 0, tm, ky, bd⟩) W)) := hU (fun W p L h => by
  obtain ⟨X0, x0, X1, x1, X2, x2, X3, x3, X4, x4, rfl, h2⟩ := h
  exact (implPublish_any b ⟨tp, 0, tm, ky, bd⟩ X0 x0 X1 x1 X2 x2 X3 x3 X4 x4 W h2.any ok0 ok1 (lens_sz HF.out) HDD.out).mono (fun e w' h => Ans4.of h))
 have BL := hU (pb_lens (d := ⟨tp, 0, tm, ky, bd⟩) HF.out (by show tp.size ≤ 1048576; omega) (by show ky.size ≤ 1048576; omega) (by show bd.size ≤ 1048576; omega)); have wl := pb_wlen b ⟨tp, 0, tm, ky, bd⟩
 obtain ⟨B, hB⟩ : ∃ B, B = pbB b ⟨tp, 0, tm, ky, bd⟩ := ⟨_, rfl⟩
 obtain ⟨Wr, hWr⟩ : ∃ Wr, Wr = pbW b ⟨tp, 0, tm, ky, bd⟩ := ⟨_, rfl⟩
 obtain ⟨cc, hcc⟩ : ∃ cc, cc = pbCode b ⟨tp, 0, tm, ky, bd⟩ := ⟨_, rfl⟩
 obtain ⟨ll, hll⟩ : ∃ ll, ll = pbL b ⟨tp, 0, tm, ky, bd⟩ := ⟨_, rfl⟩
 rw [← hB, ← hWr, ← hcc, ← hll] at SP IM
 rw [← hB] at BL
 rw [← hWr] at wl
 have BLB := hU (lens_len BL.out); have BLb := hU (lens_len HF.out)
 have bne : BrkN B ≤ 20000000 := by
  obtain ⟨h1, h2, h3, h4, h5⟩ := BLB.out
  unfold BrkN
  omega
 have ccn : ((cc : Int) != (cc : Int)) = false := by simp
 have lln : ((ll : Int) != (ll : Int)) = false := by simp
 clear hB hWr hcc hll ok0 ok1
 clear SZ RX HW3 G1
 have hT : Ext w4 w4 := Below.refl _ _
 have RL := hU (Blk.range B1)
 go_wp2_with (refine wpList_load_mid rfl 43 _ rfl g1 0 rfl cs _ RL.out Tryz.underlying43 rfl (by rw [HL13.out]; kernel_rfl) ?_)
 refine (TOB.out _ he).mono ?_
 rintro e wY ⟨Y, rfl, hy, h1⟩
 replace he := he.next h1; replace B1 := B1.ext h1; replace hT := hT.next h1
 clear h1 RL
 go_wp2_with fail
 refine (SP.out _ _ _ hy.rd).mono ?_
 rintro e wZ ⟨M, um, rfl, hm, hu, h1⟩
 replace hm := hm.base hT.size
 replace hu := hu.base hT.size
 replace he := he.next h1; replace B1 := B1.ext h1; replace hT := hT.next h1
 clear h1 hy
 have hs := hT.size
 have KZ := Blk.new wZ 59 #[.int .i64 0, .slice none 0 0, .slice none 0 0, .slice none 0 0, .int .i64 0, .slice none 0 0, .int .i64 0, .slice none 0 0, .int .i64 0, .int .i64 0, .string ⟨#[]⟩, .int .i64 0, .string ⟨#[]⟩]
 obtain ⟨w8, hwa, bq, hx2⟩ : ∃ wa, wa = (wZ.alloc (.cells #[.int .i64 0, .slice none 0 0, .slice none 0 0, .slice none 0 0, .int .i64 0, .slice none 0 0, .int .i64 0, .slice none 0 0, .int .i64 0, .int .i64 0, .string ⟨#[]⟩, .int .i64 0, .string ⟨#[]⟩] 59)).setCells wZ.heap.size 0 M ∧ Blk wa wZ.heap.size 59 M.toArray ∧ Ext wZ wa := ⟨_, rfl, put_whole KZ M (by rw [hm.len]; rfl), ext_setCells (W := wZ) (Nat.le_refl _) M 0 _ (Ext.new (Below.refl _ _) _)⟩
 have T4 := hU (show World.there (wZ.alloc (.cells #[.int .i64 0, .slice none 0 0, .slice none 0 0, .slice none 0 0, .int .i64 0, .slice none 0 0, .int .i64 0, .slice none 0 0, .int .i64 0, .int .i64 0, .string ⟨#[]⟩, .int .i64 0, .string ⟨#[]⟩] 59)) wZ.heap.size 0 M.length by rw [hm.len]; exact KZ.there 0 13 (by simp)); have HW := hU hwa
 have HY13 := hU hm.len; have HY1 := hU hm.one
 clear hwa KZ
 replace hm := hm.ext hx2; replace hu := hu.ext hx2
 replace he := he.next hx2; replace B1 := B1.ext hx2; replace hT := hT.next hx2
 have HMM := hU hm; have HUU := hU hu
 clear hm hu hx2
 go_upto_region 12 with (refine wpList_store_list rfl 59 _ _ rfl rfl wZ.heap.size 0 M rfl rfl T4.out (by rw [HY13.out]; kernel_rfl) HY1.out ?_; rw [← HW.out])
 have hm := HMM.out; have hu := HUU.out
 obtain ⟨q0, hg⟩ : ∃ q0, q0 = wZ.heap.size := ⟨_, rfl⟩
 rw [← hg] at bq
 rw [← hg]
 have hq : w4.heap.size ≤ q0 := by rw [hg]; exact hs
 have h1 := hT
 clear T4 HW HY13 HY1 HMM HUU hg hT hs
 obtain ⟨N8, hN8⟩ : ∃ N8, N8 = w8.heap.size := ⟨_, rfl⟩
 have Q0 := bq
 have RM := hU hm.rd; have WM := hU hu.rd
 have HM13 := hU hm.len
 rw [← hN8] at RM WM
 have q0N : q0 < N8 := by rw [hN8]; exact bq.lt
 have g1N : g1 < N8 := by rw [hN8]; exact B1.lt
 have wN : w.heap.size ≤ N8 := by rw [hN8]; exact he.size
 clear bq hm hu hq h1 SP
 have RX := hU (Blk.range B1)
 go_wp2_with (refine wpList_load_mid rfl 43 _ rfl g1 0 rfl cs _ RX.out Tryz.underlying43 rfl (by rw [HL13.out]; kernel_rfl) ?_)
 refine (TOB.out _ he).mono ?_
 rintro e w9 ⟨X, rfl, hx, h1⟩
 rw [← hN8] at hx
 replace he := he.next h1; replace B1 := B1.ext h1; replace Q0 := Q0.ext h1; replace RM := hU (RM.out.ext h1); replace WM := hU (WM.out.ext h1)
 have h89 := h1.size
 clear h1 RX
 have KZ := Blk.new w9 59 #[.int .i64 0, .slice none 0 0, .slice none 0 0, .slice none 0 0, .int .i64 0, .slice none 0 0, .int .i64 0, .slice none 0 0, .int .i64 0, .int .i64 0, .string ⟨#[]⟩, .int .i64 0, .string ⟨#[]⟩]
 obtain ⟨w10, hwa, K9, hx2⟩ : ∃ wa, wa = (w9.alloc (.cells #[.int .i64 0, .slice none 0 0, .slice none 0 0, .slice none 0 0, .int .i64 0, .slice none 0 0, .int .i64 0, .slice none 0 0, .int .i64 0, .int .i64 0, .string ⟨#[]⟩, .int .i64 0, .string ⟨#[]⟩] 59)).setCells w9.heap.size 0 X ∧ Blk wa w9.heap.size 59 X.toArray ∧ Ext w9 wa := ⟨_, rfl, put_whole KZ X (by rw [hx.len]; rfl), ext_setCells (W := w9) (Nat.le_refl _) X 0 _ (Ext.new (Below.refl _ _) _)⟩
 have T4 := hU (show World.there (w9.alloc (.cells #[.int .i64 0, .slice none 0 0, .slice none 0 0, .slice none 0 0, .int .i64 0, .slice none 0 0, .int .i64 0, .slice none 0 0, .int .i64 0, .int .i64 0, .string ⟨#[]⟩, .int .i64 0, .string ⟨#[]⟩] 59)) w9.heap.size 0 X.length by rw [hx.len]; exact KZ.there 0 13 (by simp)); have HW := hU hwa
 have HX13 := hU hx.len; have HX1 := hU hx.one
 clear hwa KZ
 replace he := he.next hx2; replace B1 := B1.ext hx2; replace Q0 := Q0.ext hx2; replace RM := hU (RM.out.ext hx2); replace WM := hU (WM.out.ext hx2)
 go_upto_region 13 with (refine wpList_store_list rfl 59 _ _ rfl rfl w9.heap.size 0 X rfl rfl T4.out (by rw [HX13.out]; kernel_rfl) HX1.out ?_; rw [← HW.out])
 obtain ⟨k9, hg⟩ : ∃ k9, k9 = w9.heap.size := ⟨_, rfl⟩
 rw [← hg] at K9
 rw [← hg]
 have LX := hU (show ∀ x, LBlk X x → N8 ≤ x ∧ x < k9 from fun x h => by have h2 := hx.lt x h; rw [← hg] at h2; exact h2)
 have HX := hU (hx.ext hx2)
 have kN : N8 ≤ k9 := by rw [hg, hN8]; exact h89
 clear T4 HW HX1 hx hx2 hg hN8
 have K9a := K9.lt
 have hT : Ext w10 w10 := Below.refl _ _
 have RL := hU (Blk.range K9)
 go_wp2_with (refine wpList_load_mid rfl 59 _ rfl k9 0 rfl X _ RL.out Tryz.underlying59 rfl (by rw [HX13.out]; kernel_rfl) ?_)
 refine (IM.out _ _ _ HX.out.rd).mono ?_
 rintro e wZ ⟨G, ug, rfl, hm, hu, h1⟩
 replace hm := hm.base hT.size
 replace hu := hu.base hT.size
 replace he := he.next h1; replace B1 := B1.ext h1; replace Q0 := Q0.ext h1; replace RM := hU (RM.out.ext h1); replace WM := hU (WM.out.ext h1); replace K9 := K9.ext h1; replace HX := hU (HX.out.ext h1); replace hT := hT.next h1
 clear h1 RL
 have hs := hT.size
 have KZ := Blk.new wZ 59 #[.int .i64 0, .slice none 0 0, .slice none 0 0, .slice none 0 0, .int .i64 0, .slice none 0 0, .int .i64 0, .slice none 0 0, .int .i64 0, .int .i64 0, .string ⟨#[]⟩, .int .i64 0, .string ⟨#[]⟩]
 obtain ⟨w11, hwa, bq, hx2⟩ : ∃ wa, wa = (wZ.alloc (.cells #[.int .i64 0, .slice none 0 0, .slice none 0 0, .slice none 0 0, .int .i64 0, .slice none 0 0, .int .i64 0, .slice none 0 0, .int .i64 0, .int .i64 0, .string ⟨#[]⟩, .int .i64 0, .string ⟨#[]⟩] 59)).setCells wZ.heap.size 0 G ∧ Blk wa wZ.heap.size 59 G.toArray ∧ Ext wZ wa := ⟨_, rfl, put_whole KZ G (by rw [hm.len]; rfl), ext_setCells (W := wZ) (Nat.le_refl _) G 0 _ (Ext.new (Below.refl _ _) _)⟩
 have T4 := hU (show World.there (wZ.alloc (.cells #[.int .i64 0, .slice none 0 0, .slice none 0 0, .slice none 0 0, .int .i64 0, .slice none 0 0, .int .i64 0, .slice none 0 0, .int .i64 0, .int .i64 0, .string ⟨#[]⟩, .int .i64 0, .string ⟨#[]⟩] 59)) wZ.heap.size 0 G.length by rw [hm.len]; exact KZ.there 0 13 (by simp)); have HW := hU hwa
 have HY13 := hU hm.len; have HY1 := hU hm.one
 clear hwa KZ
 replace hm := hm.ext hx2; replace hu := hu.ext hx2
 replace he := he.next hx2; replace B1 := B1.ext hx2; replace Q0 := Q0.ext hx2; replace RM := hU (RM.out.ext hx2); replace WM := hU (WM.out.ext hx2); replace K9 := K9.ext hx2; replace HX := hU (HX.out.ext hx2); replace hT := hT.next hx2
 have HMM := hU hm; have HUU := hU hu
 clear hm hu hx2
 go_upto_region 14 with (refine wpList_store_list rfl 59 _ _ rfl rfl wZ.heap.size 0 G rfl rfl T4.out (by rw [HY13.out]; kernel_rfl) HY1.out ?_; rw [← HW.out])
 have hm := HMM.out; have hu := HUU.out
 obtain ⟨q1, hg⟩ : ∃ q1, q1 = wZ.heap.size := ⟨_, rfl⟩
 rw [← hg] at bq
 rw [← hg]
 have hq : w10.heap.size ≤ q1 := by rw [hg]; exact hs
 have h1 := hT
 clear T4 HW HY13 HY1 HMM HUU hg hT hs
 have Q1 := bq
 have HG := hU hm; have WG := hU hu
 have HG13 := hU hm.len
 obtain ⟨N10, hN10⟩ : ∃ N10, N10 = w10.heap.size := ⟨_, rfl⟩
 rw [← hN10] at HG WG hq
 have LG := hU HG.out.lt; have LW := hU WG.out.lt
 have AW := hU (HG.out.apart WG.out (by decide) (by decide) (by decide) (by decide))
 have NG := hU (HG.out.ne Q1); have NW := hU (WG.out.ne Q1)
 have k9N : k9 < N10 := by rw [hN10]; exact K9a
 clear bq hm hu h1 hN10
 have R1 := hU (Blk.range Q1); have R0 := hU (Blk.range Q0)
 go_wp2_with (first | (refine wpList_load_mid rfl 59 _ rfl q1 0 rfl G _ R1.out Tryz.underlying59 rfl (by rw [HG13.out]; kernel_rfl) ?_) | (refine wpList_load_mid rfl 59 _ rfl q0 0 rfl M _ R0.out Tryz.underlying59 rfl (by rw [HM13.out]; kernel_rfl) ?_))
 refine (bvEq HG.out.rd RM.out BL.out).mono ?_
 rintro e w12 ⟨rfl, h1⟩
 replace he := he.next h1; replace B1 := B1.ext h1; replace Q0 := Q0.ext h1; replace RM := hU (RM.out.ext h1); replace WM := hU (WM.out.ext h1); replace K9 := K9.ext h1; replace HX := hU (HX.out.ext h1); replace Q1 := Q1.ext h1; replace HG := hU (HG.out.ext h1); replace WG := hU (WG.out.ext h1)
 clear h1 R0 R1
 go_wp2_with fail
 refine (bwEq WG.out.rd WM.out wl).mono ?_
 rintro e w13 ⟨rfl, h1⟩
 replace he := he.next h1; replace B1 := B1.ext h1; replace Q0 := Q0.ext h1; replace RM := hU (RM.out.ext h1); replace WM := hU (WM.out.ext h1); replace K9 := K9.ext h1; replace HX := hU (HX.out.ext h1); replace Q1 := Q1.ext h1; replace HG := hU (HG.out.ext h1); replace WG := hU (WG.out.ext h1)
 clear h1
 go_upto_region 16 with fail
 refine wp_region_held_drew (S := fun w' => Ext w13 w') (by kernel_rfl) (Below.refl _ _).drew (fun hH => ?_)
 refine wpAnyH_take (i := 0) (oi := _) (v := _) rfl (by kernel_rfl) (by kernel_rfl) (by kernel_rfl) (fun _ _ _ h => h) (yieldsIf_load_mid (by rfl) 59 _ rfl k9 0 rfl X _ (fun w' h => Blk.range (K9.ext h)) Tryz.underlying59 rfl (by rw [HX13.out]; kernel_rfl)) hH ?_
 try simp only [zB]
 refine wpAnyH_take (i := 1) (oi := _) (v := _) rfl (by kernel_rfl) (by kernel_rfl) (by kernel_rfl) (fun _ _ _ h => h) (yieldsIf_load_mid (by rfl) 43 _ rfl g1 0 rfl cs _ (fun w' h => Blk.range (B1.ext h)) Tryz.underlying43 rfl (by rw [HL13.out]; kernel_rfl)) hH ?_
 try simp only [zB]
 refine oneH 2 (oi := _) (some 89) (by kernel_rfl) rfl rfl rfl (fun K' hK => ?_)
 refine ⟨?_⟩
 rw [if_pos (by rfl)]
 go_simp
 refine (TOB.out _ (he.next hH)).mono ?_
 rintro e w14 ⟨Z, rfl, hz, h1⟩
 have HZ := hU hz
 clear hz
 refine hK.out _ _ ⟨_, rfl⟩ (hH.next h1) (fun hH2 => ?_)
 clear hK K' hH h1
 have hH := hH2
 clear hH2
 try simp only [zB]
 refine oneH 3 (oi := _) (some 90) (by kernel_rfl) rfl rfl rfl (fun K' hK => ?_)
 refine ⟨?_⟩
 rw [if_pos (by rfl)]
 go_simp
 refine (bvEq (HX.out.ext hH).rd HZ.out.rd HF.out).mono ?_
 rintro e w15 ⟨rfl, h1⟩
 refine hK.out _ _ ⟨_, rfl⟩ (hH.next h1) (fun hH2 => ?_)
 clear hK K' hH h1
 have hH := hH2
 clear hH2
 try simp only [zB]
 refine takeQ 4 (.bool false) (some 91) rfl rfl (by kernel_rfl) (Or.inl ⟨by rfl, ?yh1⟩) hH ?rh1
 case yh1 => intro w' hS'; go_simp; try with_reducible rfl
 try simp only [zA]
 have h1 := hH
 clear hH HZ
 refine wpAnyH_done (by kernel_rfl) ?_ _
 replace he := he.next h1; replace B1 := B1.ext h1; replace Q0 := Q0.ext h1; replace RM := hU (RM.out.ext h1); replace WM := hU (WM.out.ext h1); replace K9 := K9.ext h1; replace HX := hU (HX.out.ext h1); replace Q1 := Q1.ext h1; replace HG := hU (HG.out.ext h1); replace WG := hU (WG.out.ext h1)
 clear h1
 have RX := hU (Blk.range K9)
 go_wp2_with (refine wpList_load_mid rfl 59 _ rfl k9 0 rfl X _ RX.out Tryz.underlying59 rfl (by rw [HX13.out]; kernel_rfl) ?_)
 refine (bvMark (k := 1) HX.out BLb.out (by decide)).mono ?_
 rintro e w16 ⟨rfl, _, f1⟩
 replace he : Ext w w16 := f1.toExt he (fun y hy e => by have := (LX.out _ e).1; omega)
 replace B1 := f1.blk B1 (fun e => by have := (LX.out _ e).1; omega); replace Q0 := f1.blk Q0 (fun e => by have := (LX.out _ e).1; omega); replace Q1 := f1.blk Q1 (fun e => by have := (LX.out _ e).2; omega)
 replace RM := hU (RM.out.keep (f1.keep (fun y _ hy e => by have := (LX.out _ e).1; omega)))
 replace WM := hU (WM.out.keep (f1.keep (fun y _ hy e => by have := (LX.out _ e).1; omega)))
 replace HG := hU (HG.out.frm f1 (fun y hy e => by have := (LX.out _ e).2; have := (LG.out _ hy).1; omega))
 have WG2 : WVal N10 Wr ug w16 := WG.out.frm f1 (fun y hy e => by have := (LX.out _ e).2; have := (LW.out _ hy).1; omega)
 replace WG := hU WG2
 obtain ⟨k1, hk1⟩ : ∃ k1, k1 = 1 + BrkN b := ⟨_, rfl⟩
 rw [← hk1]
 have q9 : (0 : Int) ≤ (k1 : Int) := by omega
 clear f1 WG2 RX HX K9 hk1
 have R1 := hU (Blk.range Q1); have R0 := hU (Blk.range Q0)
 go_wp2_with (first | (refine wpList_load_want (by rfl) 59 _ rfl q1 0 rfl G _ R1.out Tryz.underlying59 rfl (by rw [HG13.out]; kernel_rfl) ?_) | (refine wpList_load_want (by rfl) 59 _ rfl q0 0 rfl M _ R0.out Tryz.underlying59 rfl (by rw [HM13.out]; kernel_rfl) ?_))
 refine (bvEq HG.out.rd RM.out BL.out).mono ?_
 rintro e w17 ⟨rfl, h1⟩
 replace he := he.next h1; replace B1 := B1.ext h1; replace Q0 := Q0.ext h1; replace RM := hU (RM.out.ext h1); replace WM := hU (WM.out.ext h1); replace Q1 := Q1.ext h1; replace HG := hU (HG.out.ext h1); replace WG := hU (WG.out.ext h1)
 clear h1 R0 R1
 go_wp2_with fail
 refine (bwEq WG.out.rd WM.out wl).mono ?_
 rintro e w18 ⟨rfl, h1⟩
 replace he := he.next h1; replace B1 := B1.ext h1; replace Q0 := Q0.ext h1; replace RM := hU (RM.out.ext h1); replace WM := hU (WM.out.ext h1); replace Q1 := Q1.ext h1; replace HG := hU (HG.out.ext h1); replace WG := hU (WG.out.ext h1)
 clear h1
 have R1 := hU (Blk.range Q1)
 go_wp2_with (refine wpList_load_mid rfl 59 _ rfl q1 0 rfl G _ R1.out Tryz.underlying59 rfl (by rw [HG13.out]; kernel_rfl) ?_)
 refine (bvMark (k := 1) HG.out BLB.out (by decide)).mono ?_
 rintro e w20 ⟨rfl, mk, f1⟩
 replace he : Ext w w20 := f1.toExt he (fun y hy e => by have := (LG.out _ e).1; omega)
 replace B1 := f1.blk B1 (fun e => by have := (LG.out _ e).1; omega); replace Q0 := f1.blk Q0 (fun e => by have := (LG.out _ e).1; omega); replace Q1 := f1.blk Q1 NG.out
 replace RM := hU (RM.out.keep (f1.keep (fun y _ hy e => by have := (LG.out _ e).1; omega)))
 replace WM := hU (WM.out.keep (f1.keep (fun y _ hy e => by have := (LG.out _ e).1; omega)))
 have WG2 : WVal N10 Wr ug w20 := WG.out.frm f1 (fun y hy e => AW.out y e hy)
 replace WG := hU WG2
 have MK := hU mk
 clear f1 WG2 mk HG R1
 go_wp2_with fail
 refine (bwMark (k := 1 + BrkN B) WG.out wl (by omega)).mono ?_
 rintro e w21 ⟨rfl, mk, f1⟩
 replace he : Ext w w21 := f1.toExt he (fun y hy e => by have := (LW.out _ e).1; omega)
 replace B1 := f1.blk B1 (fun e => by have := (LW.out _ e).1; omega); replace Q0 := f1.blk Q0 (fun e => by have := (LW.out _ e).1; omega); replace Q1 := f1.blk Q1 NW.out
 replace RM := hU (RM.out.keep (f1.keep (fun y _ hy e => by have := (LW.out _ e).1; omega)))
 replace WM := hU (WM.out.keep (f1.keep (fun y _ hy e => by have := (LW.out _ e).1; omega)))
 replace MK := hU (MK.out.frm f1 (fun y hy e => AW.out y hy e))
 have MW := hU mk
 clear f1 mk WG
 obtain ⟨m1, hm1⟩ : ∃ m1, m1 = 1 + BrkN B := ⟨_, rfl⟩
 obtain ⟨m2, hm2⟩ : ∃ m2, m2 = m1 + Wr.length * 3 := ⟨_, rfl⟩
 have HB : Hid (∀ (u : World), BMkL u B G 1 → Calls Tryz.prog 29 #[.agg G.toArray, .int .i64 1] u fun e w' => e = .returned (.int .i64 (m1 : Int)) ∧ Ext u w') := hU (fun u h => by rw [hm1]; exact bvHeld (k := 1) h BLB.out (by decide))
 have HWr : Hid (∀ (u : World), FMk WriteD.cells 3 WriteD.mkL u ug m1 Wr.length → Calls Tryz.prog 30 #[ug, .int .i64 (m1 : Int)] u fun e w' => e = .returned (.int .i64 (m2 : Int)) ∧ Ext u w') := hU (fun u h => by rw [hm2]; exact bwHeld (k := m1) h wl (by omega))
 rw [← hm1] at MW
 rw [← hm1]
 rw [← hm2]
 have q10 : (0 : Int) ≤ (m1 : Int) := by omega
 have q11 : (0 : Int) ≤ (m2 : Int) := by omega
 have mne : ((m2 : Int) != (m2 : Int)) = false := by simp
 clear hm1 hm2
 have R1 := hU (Blk.range Q1)
 go_wp2_with (refine wpList_load_mid rfl 59 _ rfl q1 0 rfl G _ R1.out Tryz.underlying59 rfl (by rw [HG13.out]; kernel_rfl) ?_)
 refine (HB.out _ MK.out).mono ?_
 rintro e w22 ⟨rfl, h1⟩
 replace he := he.next h1; replace B1 := B1.ext h1; replace Q0 := Q0.ext h1; replace RM := hU (RM.out.ext h1); replace WM := hU (WM.out.ext h1); replace Q1 := Q1.ext h1; replace MK := hU (MK.out.ext h1); replace MW := hU (MW.out.ext h1)
 clear h1 R1
 go_wp2_with fail
 refine (HWr.out _ MW.out).mono ?_
 rintro e w23 ⟨rfl, h1⟩
 replace he := he.next h1; replace B1 := B1.ext h1; replace Q0 := Q0.ext h1; replace RM := hU (RM.out.ext h1); replace WM := hU (WM.out.ext h1); replace Q1 := Q1.ext h1; replace MK := hU (MK.out.ext h1); replace MW := hU (MW.out.ext h1)
 clear h1
 have hT : Ext w23 w23 := Below.refl _ _
 have RL := hU (Blk.range B1)
 go_wp2_with (refine wpList_load_mid rfl 43 _ rfl g1 0 rfl cs _ RL.out Tryz.underlying43 rfl (by rw [HL13.out]; kernel_rfl) ?_)
 refine (TOB.out _ he).mono ?_
 rintro e wY ⟨Y, rfl, hy, h1⟩
 replace he := he.next h1; replace B1 := B1.ext h1; replace Q0 := Q0.ext h1; replace RM := hU (RM.out.ext h1); replace WM := hU (WM.out.ext h1); replace Q1 := Q1.ext h1; replace MK := hU (MK.out.ext h1); replace MW := hU (MW.out.ext h1); replace hT := hT.next h1
 clear h1 RL
 go_wp2_with fail
 refine (IM.out _ _ _ hy.rd).mono ?_
 rintro e wZ ⟨Hh, uh, rfl, hm, hu, h1⟩
 replace hm := hm.base hT.size
 replace hu := hu.base hT.size
 replace he := he.next h1; replace B1 := B1.ext h1; replace Q0 := Q0.ext h1; replace RM := hU (RM.out.ext h1); replace WM := hU (WM.out.ext h1); replace Q1 := Q1.ext h1; replace MK := hU (MK.out.ext h1); replace MW := hU (MW.out.ext h1); replace hT := hT.next h1
 clear h1 hy
 have hs := hT.size
 have KZ := Blk.new wZ 59 #[.int .i64 0, .slice none 0 0, .slice none 0 0, .slice none 0 0, .int .i64 0, .slice none 0 0, .int .i64 0, .slice none 0 0, .int .i64 0, .int .i64 0, .string ⟨#[]⟩, .int .i64 0, .string ⟨#[]⟩]
 obtain ⟨w24, hwa, bq, hx2⟩ : ∃ wa, wa = (wZ.alloc (.cells #[.int .i64 0, .slice none 0 0, .slice none 0 0, .slice none 0 0, .int .i64 0, .slice none 0 0, .int .i64 0, .slice none 0 0, .int .i64 0, .int .i64 0, .string ⟨#[]⟩, .int .i64 0, .string ⟨#[]⟩] 59)).setCells wZ.heap.size 0 Hh ∧ Blk wa wZ.heap.size 59 Hh.toArray ∧ Ext wZ wa := ⟨_, rfl, put_whole KZ Hh (by rw [hm.len]; rfl), ext_setCells (W := wZ) (Nat.le_refl _) Hh 0 _ (Ext.new (Below.refl _ _) _)⟩
 have T4 := hU (show World.there (wZ.alloc (.cells #[.int .i64 0, .slice none 0 0, .slice none 0 0, .slice none 0 0, .int .i64 0, .slice none 0 0, .int .i64 0, .slice none 0 0, .int .i64 0, .int .i64 0, .string ⟨#[]⟩, .int .i64 0, .string ⟨#[]⟩] 59)) wZ.heap.size 0 Hh.length by rw [hm.len]; exact KZ.there 0 13 (by simp)); have HW := hU hwa
 have HY13 := hU hm.len; have HY1 := hU hm.one
 clear hwa KZ
 replace hm := hm.ext hx2; replace hu := hu.ext hx2
 replace he := he.next hx2; replace B1 := B1.ext hx2; replace Q0 := Q0.ext hx2; replace RM := hU (RM.out.ext hx2); replace WM := hU (WM.out.ext hx2); replace Q1 := Q1.ext hx2; replace MK := hU (MK.out.ext hx2); replace MW := hU (MW.out.ext hx2); replace hT := hT.next hx2
 have HMM := hU hm; have HUU := hU hu
 clear hm hu hx2
 go_upto_region 35 with (refine wpList_store_list rfl 59 _ _ rfl rfl wZ.heap.size 0 Hh rfl rfl T4.out (by rw [HY13.out]; kernel_rfl) HY1.out ?_; rw [← HW.out])
 have hm := HMM.out; have hu := HUU.out
 obtain ⟨q2, hg⟩ : ∃ q2, q2 = wZ.heap.size := ⟨_, rfl⟩
 rw [← hg] at bq
 rw [← hg]
 have hq : w23.heap.size ≤ q2 := by rw [hg]; exact hs
 have h1 := hT
 clear T4 HW HY13 HY1 HMM HUU hg hT hs
 have Q2 := bq
 have HH := hU hm; have WH := hU hu
 have HH13 := hU hm.len
 clear bq hm hu h1 hq IM TOB
 have R1 := hU (Blk.range Q2); have R0 := hU (Blk.range Q0)
 go_wp2_with (first | (refine wpList_load_mid rfl 59 _ rfl q2 0 rfl Hh _ R1.out Tryz.underlying59 rfl (by rw [HH13.out]; kernel_rfl) ?_) | (refine wpList_load_mid rfl 59 _ rfl q0 0 rfl M _ R0.out Tryz.underlying59 rfl (by rw [HM13.out]; kernel_rfl) ?_))
 refine (bvEq HH.out.rd RM.out BL.out).mono ?_
 rintro e w25 ⟨rfl, h1⟩
 replace he := he.next h1; replace B1 := B1.ext h1; replace Q0 := Q0.ext h1; replace RM := hU (RM.out.ext h1); replace WM := hU (WM.out.ext h1); replace Q1 := Q1.ext h1; replace MK := hU (MK.out.ext h1); replace MW := hU (MW.out.ext h1); replace Q2 := Q2.ext h1; replace HH := hU (HH.out.ext h1); replace WH := hU (WH.out.ext h1)
 clear h1 R0 R1
 go_wp2_with fail
 refine (bwEq WH.out.rd WM.out wl).mono ?_
 rintro e w26 ⟨rfl, h1⟩
 replace he := he.next h1; replace B1 := B1.ext h1; replace Q0 := Q0.ext h1; replace RM := hU (RM.out.ext h1); replace WM := hU (WM.out.ext h1); replace Q1 := Q1.ext h1; replace MK := hU (MK.out.ext h1); replace MW := hU (MW.out.ext h1); replace Q2 := Q2.ext h1; replace HH := hU (HH.out.ext h1); replace WH := hU (WH.out.ext h1)
 clear h1
 have R1 := hU (Blk.range Q1)
 go_wp2_with (refine wpList_load_mid rfl 59 _ rfl q1 0 rfl G _ R1.out Tryz.underlying59 rfl (by rw [HG13.out]; kernel_rfl) ?_)
 refine (HB.out _ MK.out).mono ?_
 rintro e w27 ⟨rfl, h1⟩
 replace he := he.next h1; replace B1 := B1.ext h1; replace Q0 := Q0.ext h1; replace Q1 := Q1.ext h1; replace MK := hU (MK.out.ext h1); replace MW := hU (MW.out.ext h1)
 clear h1 R1
 go_wp2_with fail
 refine (HWr.out _ MW.out).mono ?_
 rintro e w28 ⟨rfl, h1⟩
 replace he := he.next h1; replace B1 := B1.ext h1; replace Q0 := Q0.ext h1; replace Q1 := Q1.ext h1; replace MK := hU (MK.out.ext h1); replace MW := hU (MW.out.ext h1)
 clear h1
 go_wp2_with fail
 go_ret
 exact ⟨rfl, he⟩
end Go.Proofs.YtlgdghpnfclgpaaGreat
namespace Go.Proofs.YtlgdghpnfclgpaaGreat
set_option maxHeartbeats 40000000
set_option maxRecDepth 100000
theorem and_two3 {a b : Bool} (h1 : a = true) (h2 : b = true) : (a && b) = true := by rw [h1, h2]; rfl
theorem pbFacts : joinedFacts Tryz.pinned.checked.prog 7 Tryz.f7 Rows.fnExactPublishSpec Rows.fnExactPublishRow = true := by
 unfold joinedFacts
 repeat' (with_reducible refine and_two3 ?_ ?_)
 all_goals (as_aux_lemma => kernel_rfl)
end Go.Proofs.YtlgdghpnfclgpaaGreat
