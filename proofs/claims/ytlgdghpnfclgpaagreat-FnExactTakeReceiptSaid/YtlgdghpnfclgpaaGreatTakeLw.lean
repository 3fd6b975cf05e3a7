/-
  TakeLw: No condition.
-/
import Derived.Test.YtlgdghpnfclgpaaGreatMem
import Derived.Test.YtlgdghpnfclgpaaGreatSpTak2
import Derived.Test.YtlgdghpnfclgpaaGreatBVal
namespace Go.Proofs.YtlgdghpnfclgpaaGreat
set_option maxHeartbeats 16000000
set_option maxRecDepth 100000
set_option linter.unusedSimpArgs false
open Go.RowKit Go.WideShapes Go.ChangeAt
set_option linter.unusedVariables false
theorem ta_room {b : BrokerD} {r : ReceiptD} (h : taCode b r = 0) : b.receipts.length < 512 := by
 by_cases h5 : b.receipts.length < 512
 · exact h5
 · exfalso
   have h6 : 512 ≤ b.receipts.length := by omega
   unfold taCode tkCode at h
   rw [if_pos h6] at h
   repeat' split at h
   all_goals omega
theorem ta_lens {b : BrokerD} {r : ReceiptD} (hb : ∀ n ∈ b.lens, n ≤ 1048576) (hr : ∀ n ∈ r.lens, n ≤ 1048576) : ∀ n ∈ (taB b r).lens, n ≤ 1048576 := by
 unfold taB
 by_cases h : taCode b r = 0
 · rw [if_pos h]
   have hl := ta_room h
   intro k hk
   have hb' : ∀ m, m ∈ b.lens → m ≤ 1048576 := hb
   simp only [tkB, BrokerD.lens, List.mem_append, List.mem_cons, List.length_append, List.length_cons, List.length_nil, List.flatMap_append, List.flatMap_cons, List.flatMap_nil, List.append_nil, List.not_mem_nil, or_false] at hk hb'
   rcases hk with h1 | (h1 | h1 | h1) | (h1 | h1) | h1
   · exact hb' _ (.inl h1)
   · omega
   · exact hb' _ (.inr (.inl (.inr h1)))
   · exact hr _ h1
   · exact hb' _ (.inr (.inr (.inl (.inl h1))))
   · exact hb' _ (.inr (.inr (.inl (.inr h1))))
   · exact hb' _ (.inr (.inr (.inr h1)))
 · rw [if_neg h]
   intro k hk
   simp [noB, BrokerD.lens, LogD.lens, SealD.lens, RangeD.lens, HeadD.lens, hz] at hk
   have h0 : (⟨#[]⟩ : ByteArray).size = 0 := rfl
   omega
theorem ta_wlen (b : BrokerD) (r : ReceiptD) : (taW b r).length ≤ 3 := by
 unfold taW; split <;> simp
theorem BVal.base {K K' : Nat} {B : BrokerD} {L : List Value} {w : World} (h : BVal K B L w) (hK : K' ≤ K) : BVal K' B L w := by
 obtain ⟨X0, x0, X1, x1, X2, x2, X3, x3, X4, x4, h1, h2, h3⟩ := h
 exact ⟨X0, x0, X1, x1, X2, x2, X3, x3, X4, x4, h1, ⟨ownsRow_base h2.e hK, ownsRow_base h2.r hK, ownsRow_base h2.h hK, ownsRow_base h2.p hK, ownsRow_base h2.q hK⟩, h3⟩
theorem BVal.put {K G : Nat} {B : BrokerD} {L : List Value} {w : World} {cs : Array Value} (h : BVal K B L w) (hb : Blk w G 59 cs) (vs : List Value) (o : Nat) : BVal K B L (w.setCells G o vs) := by
 obtain ⟨X0, x0, X1, x1, X2, x2, X3, x3, X4, x4, h1, h2, h3⟩ := h
 exact ⟨X0, x0, X1, x1, X2, x2, X3, x3, X4, x4, h1, ⟨row_put h2.e hb (by decide) vs o, row_put h2.r hb (by decide) vs o, row_put h2.h hb (by decide) vs o, row_put h2.p hb (by decide) vs o, row_put h2.q hb (by decide) vs o⟩, h3⟩
theorem BVal.ne {K G : Nat} {B : BrokerD} {L : List Value} {w : World} {cs : Array Value} (h : BVal K B L w) (hb : Blk w G 59 cs) : ¬ LBlk L G := fun hx => by
 obtain ⟨X0, x0, X1, x1, X2, x2, X3, x3, X4, x4, rfl, h2, h3⟩ := h
 rcases lblk_cells hx with h | h | h | h | h
 · exact own_ne h2.e hb (by decide) _ h rfl
 · exact own_ne h2.r hb (by decide) _ h rfl
 · exact own_ne h2.h hb (by decide) _ h rfl
 · exact own_ne h2.p hb (by decide) _ h rfl
 · exact own_ne h2.q hb (by decide) _ h rfl
theorem WVal.base {K K' : Nat} {W : List WriteD} {v : Value} {w : World} (h : WVal K W v w) (hK : K' ≤ K) : WVal K' W v w := ownsRow_base h hK
theorem WVal.ext {K : Nat} {W : List WriteD} {v : Value} {w w' : World} (h : WVal K W v w) (he : Ext w w') : WVal K W v w' := ownsRow_ext h he
theorem WVal.put {K G : Nat} {W : List WriteD} {v : Value} {w : World} {cs : Array Value} (h : WVal K W v w) (hb : Blk w G 59 cs) (vs : List Value) (o : Nat) : WVal K W v (w.setCells G o vs) := row_put h hb (by decide) vs o
theorem WVal.ne {K G : Nat} {W : List WriteD} {v : Value} {w : World} {cs : Array Value} (h : WVal K W v w) (hb : Blk w G 59 cs) : ¬ InBlock v G := fun hx => own_ne h hb (by decide) _ hx rfl
theorem WVal.lt {K : Nat} {W : List WriteD} {v : Value} {w : World} (h : WVal K W v w) : ∀ x, InBlock v x → K ≤ x ∧ x < w.heap.size := fun x hx => World.ownsRow.lt h x hx
theorem WVal.frm {K : Nat} {W : List WriteD} {v : Value} {X : Nat → Prop} {w w' : World} (h : WVal K W v w) (f : Frm X w w') (hX : ∀ x, InBlock v x → ¬ X x) : WVal K W v w' := by
 unfold WVal at *
 exact f.own h hX
theorem bwMark {K k : Nat} {W : List WriteD} {v : Value} {w : World} (h : WVal K W v w) (hl : W.length ≤ 3) (hk : k ≤ 1000000000) :
 Calls Tryz.prog 28 #[v, .int .i64 (k : Int)] w fun e w' => e = .returned (.int .i64 ((k + W.length * 3 : Nat) : Int)) ∧ FMk WriteD.cells 3 WriteD.mkL w' v k W.length ∧ Frm (InBlock v) w w' :=
 markWriteS_row (k := k) (a := W) h (by omega) (by omega)
theorem bwHeld {k : Nat} {W : List WriteD} {v : Value} {w : World} (h : FMk WriteD.cells 3 WriteD.mkL w v k W.length) (hl : W.length ≤ 3) (hk : k ≤ 1000000000) :
 Calls Tryz.prog 30 #[v, .int .i64 (k : Int)] w fun e w' => e = .returned (.int .i64 ((k + W.length * 3 : Nat) : Int)) ∧ Ext w w' := by
 obtain ⟨A, c', rfl, s⟩ := h
 exact heldWriteS_any A W.length c' k w s.reads (by omega) (by omega)
theorem blk_w {w : World} {g t : Nat} {cs : Array Value} (h : Blk w g t cs) : ∃ w6, w6 = w := ⟨w, rfl⟩
theorem lawTakeReceipt_walk (b : BrokerD) (r : ReceiptD) (A0 : Option Addr) (a0 : Nat) (A1 : Option Addr) (a1 : Nat) (A2 : Option Addr) (a2 : Nat) (A3 : Option Addr) (a3 : Nat) (A4 : Option Addr) (a4 : Nat) (w : World) (hok : b.Ok) (hrk : r.Ok) (s : BArg AnyB w b A0 a0 A1 a1 A2 a2 A3 a3 A4 a4) :
 Calls Tryz.prog 6 #[.agg (brkV b A0 a0 A1 a1 A2 a2 A3 a3 A4 a4).toArray, .agg #[.string r.reader, .string r.topic, .int .i64 r.index]] w fun e w' => e = .returned (.bool true) ∧ Ext w w' := by
 have SZ : Hid (∀ (W : World), Ext w W → Calls Tryz.prog 14 #[.agg (brkV b A0 a0 A1 a1 A2 a2 A3 a3 A4 a4).toArray, .int .i64 1048576] W fun e w' => e = .returned (.int .i64 (szL b.lens 1048576)) ∧ Ext W w') := hU (fun W hW => szBroker_any b A0 a0 A1 a1 A2 a2 A3 a3 A4 a4 1048576 W hok (s.ext hW).e (s.ext hW).r (s.ext hW).h (s.ext hW).u (s.ext hW).v (by decide) (by decide))
 have SR := hU (fun (l : Int) (h0 : 0 ≤ l) (h1 : l ≤ 1048576) (W : World) => szReceipt_any r l W hrk h0 h1)
 obtain ⟨cs, hcs⟩ : ∃ cs, cs = (brkV b A0 a0 A1 a1 A2 a2 A3 a3 A4 a4) := ⟨_, rfl⟩
 have HL13 := hU (show cs.length = 13 by rw [hcs]; rfl)
 have RD : Hid (∀ (W : World), Ext w W → BRdL AnyB b cs W) := hU (fun W hW => ⟨A0, a0, A1, a1, A2, a2, A3, a3, A4, a4, hcs, s.ext hW⟩)
 have ok0 : ∀ x ∈ b.log.entries, x.Ok := hok.2.1
 have ok1 : ∀ x ∈ b.receipts, x.Ok := hok.2.2.1
 rw [← hcs] at SZ
 rw [← hcs]
 clear hcs s hok
 obtain ⟨l1, hl1⟩ : ∃ l1, l1 = szL b.lens 1048576 := ⟨_, rfl⟩
 rw [← hl1] at SZ
 have HL1 := hU hl1
 clear hl1
 obtain ⟨B1, B2, he⟩ := two_new w cs.toArray #[.string r.reader, .string r.topic, .int .i64 r.index] 43 74
 obtain ⟨g1, hg1⟩ : ∃ g1, g1 = w.heap.size := ⟨_, rfl⟩
 obtain ⟨g2, hg2⟩ : ∃ g2, g2 = w.heap.size + 1 := ⟨_, rfl⟩
 obtain ⟨w3, hw3⟩ : ∃ w3, w3 = (w.alloc (.cells cs.toArray 43)).alloc (.cells #[.string r.reader, .string r.topic, .int .i64 r.index] 74) := ⟨_, rfl⟩
 have HW3 := hU hw3
 rw [← hw3] at B1 B2 he
 rw [← hg2] at B2
 rw [← hg1] at B1
 have RX := hU (Blk.range B1)
 have G1 := hU hg1; have G2 := hU hg2
 clear hw3 hg1 hg2
 by_cases c1 : l1 < 0
 · skip
   go_enter Tryz.func6, Tryz.ntmps6
   go_upto_region 1 with fail
   rw [← HW3.out, ← G2.out, ← G1.out]
   go_wp2_with (refine wpList_load_mid rfl 43 _ rfl g1 0 rfl cs _ RX.out Tryz.underlying43 rfl (by rw [HL13.out]; kernel_rfl) ?_)
   refine (SZ.out _ he).mono ?_
   rintro e w4 ⟨rfl, h1⟩
   replace he := he.next h1; replace B1 := B1.ext h1; replace B2 := B2.ext h1
   clear h1
   go_wp2_with fail
   go_ret
   exact ⟨rfl, he⟩
 have lu : l1 ≤ 1048576 := by rw [HL1.out]; exact szL_upto (by decide) (by rw [← HL1.out]; exact c1)
 have SR2 := hU (SR.out l1 (by omega) lu)
 have HF : Hid (∀ n ∈ b.lens, n ≤ 1048576) := hU (szL_fit (left := 1048576) (by decide) (by decide) (by rw [← HL1.out]; exact c1))
 obtain ⟨l2, hl2⟩ : ∃ l2, l2 = szL r.lens l1 := ⟨_, rfl⟩
 rw [← hl2] at SR2
 have HL2 := hU hl2
 have HFR : Hid (¬ l2 < 0 → ∀ n ∈ r.lens, n ≤ 1048576) := hU (fun c2 => szL_fit (left := l1) (by omega) lu (by rw [← HL2.out]; exact c2))
 clear hl2 SR HL1
 by_cases c2 : l2 < 0
 · skip
   go_enter Tryz.func6, Tryz.ntmps6
   go_upto_region 1 with fail
   rw [← HW3.out, ← G2.out, ← G1.out]
   go_wp2_with (refine wpList_load_mid rfl 43 _ rfl g1 0 rfl cs _ RX.out Tryz.underlying43 rfl (by rw [HL13.out]; kernel_rfl) ?_)
   refine (SZ.out _ he).mono ?_
   rintro e w4 ⟨rfl, h1⟩
   replace he := he.next h1; replace B1 := B1.ext h1; replace B2 := B2.ext h1
   clear h1
   obtain ⟨r2, f2⟩ := B2.rules
   go_wp2_with fail
   refine (SR2.out _).mono ?_
   rintro e w5 ⟨rfl, h1⟩
   replace he := he.next h1; replace B1 := B1.ext h1; replace B2 := B2.ext h1
   clear h1 r2 f2
   go_wp2_with fail
   go_ret
   exact ⟨rfl, he⟩
 have TOB : Hid (∀ (W : World), Ext w W → Calls Tryz.prog 16 #[.agg cs.toArray] W fun e w' => ∃ M, e = .returned (.agg M.toArray) ∧ BVal W.heap.size b M w' ∧ Ext W w') := hU (fun W hW => bvTo (RD.out W hW) HF.out)
 have SP : Hid (∀ (W : World) (p : Nat → Prop) (L : List Value), BRdL p b L W → Calls Tryz.prog 32 #[.agg L.toArray, .agg #[.string r.reader, .string r.topic, .int .i64 r.index]] W (Ans3 (taB b r) (taW b r) (taCode b r) W)) := hU (fun W p L h => by
  obtain ⟨X0, x0, X1, x1, X2, x2, X3, x3, X4, x4, rfl, h2⟩ := h
  exact (specTakeReceipt_any b r X0 x0 X1 x1 X2 x2 X3 x3 X4 x4 W h2.any ok0 ok1 (lens_sz HF.out) hrk).mono (fun e w' h => Ans3.of h))
 have IM : Hid (∀ (W : World) (p : Nat → Prop) (L : List Value), BRdL p b L W → Calls Tryz.prog 34 #[.agg L.toArray, .agg #[.string r.reader, .string r.topic, .int .i64 r.index]] W (Ans3 (taB b r) (taW b r) (taCode b r) W)) := hU (fun W p L h => by
  obtain ⟨X0, x0, X1, x1, X2, x2, X3, x3, X4, x4, rfl, h2⟩ := h
  exact (implTakeReceipt_any b r X0 x0 X1 x1 X2 x2 X3 x3 X4 x4 W h2.any ok0 ok1 (lens_sz HF.out) hrk).mono (fun e w' h => Ans3.of h))
 have BL := hU (ta_lens HF.out (HFR.out c2)); have wl := ta_wlen b r
 obtain ⟨B, hB⟩ : ∃ B, B = taB b r := ⟨_, rfl⟩
 obtain ⟨Wr, hWr⟩ : ∃ Wr, Wr = taW b r := ⟨_, rfl⟩
 obtain ⟨cc, hcc⟩ : ∃ cc, cc = taCode b r := ⟨_, rfl⟩
 rw [← hB, ← hWr, ← hcc] at SP IM
 rw [← hB] at BL
 rw [← hWr] at wl
 have BLB := hU (lens_len BL.out); have BLb := hU (lens_len HF.out)
 have bne : BrkN B ≤ 20000000 := by
  obtain ⟨h1, h2, h3, h4, h5⟩ := BLB.out
  unfold BrkN
  omega
 have ccn : ((cc : Int) != (cc : Int)) = false := by simp
 clear hB hWr hcc ok0 ok1 hrk HFR
 go_enter Tryz.func6, Tryz.ntmps6
 go_upto_region 1 with fail
 rw [← HW3.out, ← G2.out, ← G1.out]
 go_wp2_with (refine wpList_load_mid rfl 43 _ rfl g1 0 rfl cs _ RX.out Tryz.underlying43 rfl (by rw [HL13.out]; kernel_rfl) ?_)
 refine (SZ.out _ he).mono ?_
 rintro e w4 ⟨rfl, h1⟩
 replace he := he.next h1; replace B1 := B1.ext h1; replace B2 := B2.ext h1
 clear h1
 obtain ⟨r2, f2⟩ := B2.rules
 go_wp2_with fail
 refine (SR2.out _).mono ?_
 rintro e w5 ⟨rfl, h1⟩
 replace he := he.next h1; replace B1 := B1.ext h1; replace B2 := B2.ext h1
 clear h1 r2 f2
 clear SZ SR2 RX HW3
 go_upto_region 8 with fail
 go_cut [6, 7, 8] (fun vq vu vc wx => ∃ (q : Nat) (M : List Value) (u : Value), vq = .pointer (some ⟨q, 0, none⟩) ∧ u = vu ∧ vc = .int .i64 (cc : Int) ∧ Blk wx q 59 M.toArray ∧ BVal w5.heap.size B M wx ∧ WVal w5.heap.size Wr u wx ∧ w5.heap.size ≤ q ∧ Ext w5 wx)
 case first =>
  refine wp_region_held_drew (S := fun w' => Ext w5 w') (by kernel_rfl) (Below.refl _ _).drew (fun hH => ?_)
  generalize w5.drew = w0 at *
  refine wpAnyH_take (i := 0) (oi := _) (v := _) rfl (by kernel_rfl) (by kernel_rfl) (by kernel_rfl) (fun _ _ _ h => h) (yieldsIf_load_mid (by rfl) 43 _ rfl g1 0 rfl cs _ (fun w' h => Blk.range (B1.ext h)) Tryz.underlying43 rfl (by rw [HL13.out]; kernel_rfl)) hH ?_
  (try simp only [fillA, Act.put, pz1, pz2, pz3])
  refine wpAnyH_take (i := 2) (oi := _) (v := _) rfl (by kernel_rfl) (by kernel_rfl) (by kernel_rfl) (fun _ _ _ h => h) (yieldsIf_load_mid (by rfl) 74 _ rfl g2 0 rfl [.string r.reader, .string r.topic, .int .i64 r.index] _ (fun w' h => Blk.range (B2.ext h)) Tryz.underlying74 rfl (by kernel_rfl)) hH ?_
  (try simp only [fillA, Act.put, pz1, pz2, pz3])
  refine twoH 1 9 (oi := _) (oj := _) (some 31) (some 6) (by kernel_rfl) rfl rfl rfl rfl rfl rfl (fun K' hK => ?_) (fun K' hK => ?_)
  · skip
    refine ⟨?_⟩
    rw [if_pos (by rfl)]
    go_simp
    refine (TOB.out _ (he.next hH)).mono ?_
    rintro e wA ⟨Y, rfl, hy, h1⟩
    have HY := hU hy
    clear hy
    refine hK.out _ _ ⟨_, rfl⟩ (hH.next h1) (fun hH2 => ?_)
    clear hK K' hH h1
    have hH := hH2
    clear hH2
    (try simp only [fillA, Act.put, pz1, pz2, pz3])
    refine twoH 3 9 (oi := _) (oj := _) (some 33) (some 6) (by kernel_rfl) rfl rfl rfl rfl rfl rfl (fun K' hK => ?_) (fun K' hK => ?_)
    · skip
      refine ⟨?_⟩
      rw [if_pos (by rfl)]
      go_simp
      refine (toReceipt_any r _).mono ?_
      rintro e wB ⟨rfl, h1⟩
      replace HY := hU (HY.out.ext h1)
      refine hK.out _ _ ⟨_, rfl⟩ (hH.next h1) (fun hH2 => ?_)
      clear hK K' hH h1
      have hH := hH2
      clear hH2
      (try simp only [fillA, Act.put, pz1, pz2, pz3])
      refine twoH 4 9 (oi := _) (oj := _) (some 34) (some 6) (by kernel_rfl) rfl rfl rfl rfl rfl rfl (fun K' hK => ?_) (fun K' hK => ?_)
      · skip
        refine ⟨?_⟩
        rw [if_pos (by rfl)]
        go_simp
        refine (SP.out _ _ _ HY.out.rd).mono ?_
        rintro e wC ⟨M, u, rfl, hm, hu, h1⟩
        replace HY := hU (HY.out.ext h1)
        have HM := hU (hm.base hH.size); have HU := hU (hu.base hH.size)
        clear hm hu
        refine hK.out _ _ ⟨_, rfl⟩ (hH.next h1) (fun hH2 => ?_)
        clear hK K' hH h1
        have hH := hH2
        clear hH2
        (try simp only [fillA, Act.put, pz1, pz2, pz3])
        refine takeQ 5 (.tuple #[.agg M.toArray, u, .int .i64 (cc : Int)]) (some 29) rfl rfl (by kernel_rfl) (Or.inl ⟨by rfl, ?yg8aaa1⟩) hH ?rg8aaa1
        case yg8aaa1 => intro w' hS'; go_simp; try with_reducible rfl
        (try simp only [Act.put, pz1, pz2, pz3])
        refine takeQ 6 (.agg M.toArray) (some 35) rfl rfl (by kernel_rfl) (Or.inl ⟨by rfl, ?yg8aaa2⟩) hH ?rg8aaa2
        case yg8aaa2 => intro w' hS'; go_simp; try with_reducible rfl
        (try simp only [Act.put, pz1, pz2, pz3])
        refine takeQ 7 (u) (some 36) rfl rfl (by kernel_rfl) (Or.inl ⟨by rfl, ?yg8aaa3⟩) hH ?rg8aaa3
        case yg8aaa3 => intro w' hS'; go_simp; try with_reducible rfl
        (try simp only [Act.put, pz1, pz2, pz3])
        refine takeQ 8 (.int .i64 (cc : Int)) (some 37) rfl rfl (by kernel_rfl) (Or.inl ⟨by rfl, ?yg8aaa4⟩) hH ?rg8aaa4
        case yg8aaa4 => intro w' hS'; go_simp; try with_reducible rfl
        (try simp only [Act.put, pz1, pz2, pz3])
        refine oneH 9 (oi := _) (some 6) (by kernel_rfl) rfl rfl rfl (fun K' hK => ?_)
        have h1 := Ext.new (Below.refl wC.heap.size wC) (.cells #[.int .i64 0, .slice none 0 0, .slice none 0 0, .slice none 0 0, .int .i64 0, .slice none 0 0, .int .i64 0, .slice none 0 0, .int .i64 0, .int .i64 0, .string ⟨#[]⟩, .int .i64 0, .string ⟨#[]⟩] 59)
        obtain ⟨q, hq⟩ : ∃ q, q = wC.heap.size := ⟨_, rfl⟩
        have bq := Blk.new wC 59 #[.int .i64 0, .slice none 0 0, .slice none 0 0, .slice none 0 0, .int .i64 0, .slice none 0 0, .int .i64 0, .slice none 0 0, .int .i64 0, .int .i64 0, .string ⟨#[]⟩, .int .i64 0, .string ⟨#[]⟩]
        rw [← hq] at bq
        have QB := hU (show w5.heap.size ≤ q by have := hH.size; omega)
        obtain ⟨wF, hu_, h1, bq⟩ : ∃ u, u = wC.alloc (.cells #[.int .i64 0, .slice none 0 0, .slice none 0 0, .slice none 0 0, .int .i64 0, .slice none 0 0, .int .i64 0, .slice none 0 0, .int .i64 0, .int .i64 0, .string ⟨#[]⟩, .int .i64 0, .string ⟨#[]⟩] 59) ∧ Ext wC u ∧ Blk u q 59 #[.int .i64 0, .slice none 0 0, .slice none 0 0, .slice none 0 0, .int .i64 0, .slice none 0 0, .int .i64 0, .slice none 0 0, .int .i64 0, .int .i64 0, .string ⟨#[]⟩, .int .i64 0, .string ⟨#[]⟩] := ⟨_, rfl, h1, bq⟩
        have HUU := hU hu_; have HQQ := hU hq
        clear hu_ hq
        refine ⟨?_⟩
        rw [if_pos (by rfl)]
        go_simp
        rw [← HUU.out, ← HQQ.out]
        replace HY := hU (HY.out.ext h1)
        replace HM := hU (HM.out.ext h1)
        replace HU := hU (HU.out.ext h1)
        have BQ := hU bq
        clear bq
        refine hK.out _ _ ⟨_, rfl⟩ (hH.next h1) (fun hH2 => ?_)
        clear hK K' hH h1 HUU HQQ
        have hH := hH2
        clear hH2
        (try simp only [fillA, Act.put, pz1, pz2, pz3])
        have Tq := hU (show World.there wF q 0 M.length by rw [HM.out.len]; exact BQ.out.there 0 13 (by simp))
        have bz := put_whole BQ.out M (by rw [HM.out.len]; rfl)
        have mz := HM.out.put BQ.out M 0
        have uz := HU.out.put BQ.out M 0
        refine oneH 10 (oi := _) none (by kernel_rfl) rfl rfl rfl (fun K' hK => ?_)
        refine ⟨?_⟩
        rw [if_pos (by rfl)]
        refine wp_store_lst 59 _ _ rfl rfl q 0 M rfl rfl Tq.out (by rw [HM.out.len]; kernel_rfl) HM.out.one ?_
        refine hK.out _ _ ⟨undef, rfl⟩ (ext_setCells (W := w5) QB.out M 0 _ hH) (fun hH2 => ?_)
        clear hK K' hH Tq
        have hH := hH2
        clear hH2
        (try simp only [fillA, Act.put, pz1, pz2, pz3])
        refine takeQ 11 (u) (some 7) rfl rfl (by kernel_rfl) (Or.inl ⟨by rfl, ?yg8aaa5⟩) hH ?rg8aaa5
        case yg8aaa5 => intro w' hS'; go_simp; try with_reducible rfl
        (try simp only [Act.put, pz1, pz2, pz3])
        refine takeQ 12 (.int .i64 (cc : Int)) (some 8) rfl rfl (by kernel_rfl) (Or.inl ⟨by rfl, ?yg8aaa6⟩) hH ?rg8aaa6
        case yg8aaa6 => intro w' hS'; go_simp; try with_reducible rfl
        (try simp only [Act.put, pz1, pz2, pz3])
        refine wpAnyH_done (by kernel_rfl) ?_ _
        (try go_wp2_with fail)
        go_meet
        case rel => exact ⟨q, M, u, rfl, rfl, rfl, bz, mz, uz, QB.out, hH⟩
      · skip
        have h1 := Ext.new (Below.refl wB.heap.size wB) (.cells #[.int .i64 0, .slice none 0 0, .slice none 0 0, .slice none 0 0, .int .i64 0, .slice none 0 0, .int .i64 0, .slice none 0 0, .int .i64 0, .int .i64 0, .string ⟨#[]⟩, .int .i64 0, .string ⟨#[]⟩] 59)
        obtain ⟨q, hq⟩ : ∃ q, q = wB.heap.size := ⟨_, rfl⟩
        have bq := Blk.new wB 59 #[.int .i64 0, .slice none 0 0, .slice none 0 0, .slice none 0 0, .int .i64 0, .slice none 0 0, .int .i64 0, .slice none 0 0, .int .i64 0, .int .i64 0, .string ⟨#[]⟩, .int .i64 0, .string ⟨#[]⟩]
        rw [← hq] at bq
        have QB := hU (show w5.heap.size ≤ q by have := hH.size; omega)
        obtain ⟨wQ, hu_, h1, bq⟩ : ∃ u, u = wB.alloc (.cells #[.int .i64 0, .slice none 0 0, .slice none 0 0, .slice none 0 0, .int .i64 0, .slice none 0 0, .int .i64 0, .slice none 0 0, .int .i64 0, .int .i64 0, .string ⟨#[]⟩, .int .i64 0, .string ⟨#[]⟩] 59) ∧ Ext wB u ∧ Blk u q 59 #[.int .i64 0, .slice none 0 0, .slice none 0 0, .slice none 0 0, .int .i64 0, .slice none 0 0, .int .i64 0, .slice none 0 0, .int .i64 0, .int .i64 0, .string ⟨#[]⟩, .int .i64 0, .string ⟨#[]⟩] := ⟨_, rfl, h1, bq⟩
        have HUU := hU hu_; have HQQ := hU hq
        clear hu_ hq
        refine ⟨?_⟩
        rw [if_pos (by rfl)]
        go_simp
        rw [← HUU.out, ← HQQ.out]
        replace HY := hU (HY.out.ext h1)
        have BQ := hU bq
        clear bq
        refine hK.out _ _ ⟨_, rfl⟩ (hH.next h1) (fun hH2 => ?_)
        clear hK K' hH h1 HUU HQQ
        have hH := hH2
        clear hH2
        (try simp only [fillA, Act.put, pz1, pz2, pz3])
        refine oneH 4 (oi := _) (some 34) (by kernel_rfl) rfl rfl rfl (fun K' hK => ?_)
        refine ⟨?_⟩
        rw [if_pos (by rfl)]
        go_simp
        refine (SP.out _ _ _ HY.out.rd).mono ?_
        rintro e wC ⟨M, u, rfl, hm, hu, h1⟩
        replace HY := hU (HY.out.ext h1)
        replace BQ := hU (BQ.out.ext h1)
        have HM := hU (hm.base hH.size); have HU := hU (hu.base hH.size)
        clear hm hu
        refine hK.out _ _ ⟨_, rfl⟩ (hH.next h1) (fun hH2 => ?_)
        clear hK K' hH h1
        have hH := hH2
        clear hH2
        (try simp only [fillA, Act.put, pz1, pz2, pz3])
        refine takeQ 5 (.tuple #[.agg M.toArray, u, .int .i64 (cc : Int)]) (some 29) rfl rfl (by kernel_rfl) (Or.inl ⟨by rfl, ?yg8aabc1⟩) hH ?rg8aabc1
        case yg8aabc1 => intro w' hS'; go_simp; try with_reducible rfl
        (try simp only [Act.put, pz1, pz2, pz3])
        refine takeQ 6 (.agg M.toArray) (some 35) rfl rfl (by kernel_rfl) (Or.inl ⟨by rfl, ?yg8aabc2⟩) hH ?rg8aabc2
        case yg8aabc2 => intro w' hS'; go_simp; try with_reducible rfl
        (try simp only [Act.put, pz1, pz2, pz3])
        refine takeQ 7 (u) (some 36) rfl rfl (by kernel_rfl) (Or.inl ⟨by rfl, ?yg8aabc3⟩) hH ?rg8aabc3
        case yg8aabc3 => intro w' hS'; go_simp; try with_reducible rfl
        (try simp only [Act.put, pz1, pz2, pz3])
        refine takeQ 8 (.int .i64 (cc : Int)) (some 37) rfl rfl (by kernel_rfl) (Or.inl ⟨by rfl, ?yg8aabc4⟩) hH ?rg8aabc4
        case yg8aabc4 => intro w' hS'; go_simp; try with_reducible rfl
        (try simp only [Act.put, pz1, pz2, pz3])
        have Tq := hU (show World.there wC q 0 M.length by rw [HM.out.len]; exact BQ.out.there 0 13 (by simp))
        have bz := put_whole BQ.out M (by rw [HM.out.len]; rfl)
        have mz := HM.out.put BQ.out M 0
        have uz := HU.out.put BQ.out M 0
        refine oneH 10 (oi := _) none (by kernel_rfl) rfl rfl rfl (fun K' hK => ?_)
        refine ⟨?_⟩
        rw [if_pos (by rfl)]
        refine wp_store_lst 59 _ _ rfl rfl q 0 M rfl rfl Tq.out (by rw [HM.out.len]; kernel_rfl) HM.out.one ?_
        refine hK.out _ _ ⟨undef, rfl⟩ (ext_setCells (W := w5) QB.out M 0 _ hH) (fun hH2 => ?_)
        clear hK K' hH Tq
        have hH := hH2
        clear hH2
        (try simp only [fillA, Act.put, pz1, pz2, pz3])
        refine takeQ 11 (u) (some 7) rfl rfl (by kernel_rfl) (Or.inl ⟨by rfl, ?yg8aabc5⟩) hH ?rg8aabc5
        case yg8aabc5 => intro w' hS'; go_simp; try with_reducible rfl
        (try simp only [Act.put, pz1, pz2, pz3])
        refine takeQ 12 (.int .i64 (cc : Int)) (some 8) rfl rfl (by kernel_rfl) (Or.inl ⟨by rfl, ?yg8aabc6⟩) hH ?rg8aabc6
        case yg8aabc6 => intro w' hS'; go_simp; try with_reducible rfl
        (try simp only [Act.put, pz1, pz2, pz3])
        refine wpAnyH_done (by kernel_rfl) ?_ _
        (try go_wp2_with fail)
        go_meet
        case rel => exact ⟨q, M, u, rfl, rfl, rfl, bz, mz, uz, QB.out, hH⟩
    · skip
      have h1 := Ext.new (Below.refl wA.heap.size wA) (.cells #[.int .i64 0, .slice none 0 0, .slice none 0 0, .slice none 0 0, .int .i64 0, .slice none 0 0, .int .i64 0, .slice none 0 0, .int .i64 0, .int .i64 0, .string ⟨#[]⟩, .int .i64 0, .string ⟨#[]⟩] 59)
      obtain ⟨q, hq⟩ : ∃ q, q = wA.heap.size := ⟨_, rfl⟩
      have bq := Blk.new wA 59 #[.int .i64 0, .slice none 0 0, .slice none 0 0, .slice none 0 0, .int .i64 0, .slice none 0 0, .int .i64 0, .slice none 0 0, .int .i64 0, .int .i64 0, .string ⟨#[]⟩, .int .i64 0, .string ⟨#[]⟩]
      rw [← hq] at bq
      have QB := hU (show w5.heap.size ≤ q by have := hH.size; omega)
      obtain ⟨wQ, hu_, h1, bq⟩ : ∃ u, u = wA.alloc (.cells #[.int .i64 0, .slice none 0 0, .slice none 0 0, .slice none 0 0, .int .i64 0, .slice none 0 0, .int .i64 0, .slice none 0 0, .int .i64 0, .int .i64 0, .string ⟨#[]⟩, .int .i64 0, .string ⟨#[]⟩] 59) ∧ Ext wA u ∧ Blk u q 59 #[.int .i64 0, .slice none 0 0, .slice none 0 0, .slice none 0 0, .int .i64 0, .slice none 0 0, .int .i64 0, .slice none 0 0, .int .i64 0, .int .i64 0, .string ⟨#[]⟩, .int .i64 0, .string ⟨#[]⟩] := ⟨_, rfl, h1, bq⟩
      have HUU := hU hu_; have HQQ := hU hq
      clear hu_ hq
      refine ⟨?_⟩
      rw [if_pos (by rfl)]
      go_simp
      rw [← HUU.out, ← HQQ.out]
      replace HY := hU (HY.out.ext h1)
      have BQ := hU bq
      clear bq
      refine hK.out _ _ ⟨_, rfl⟩ (hH.next h1) (fun hH2 => ?_)
      clear hK K' hH h1 HUU HQQ
      have hH := hH2
      clear hH2
      (try simp only [fillA, Act.put, pz1, pz2, pz3])
      refine oneH 3 (oi := _) (some 33) (by kernel_rfl) rfl rfl rfl (fun K' hK => ?_)
      refine ⟨?_⟩
      rw [if_pos (by rfl)]
      go_simp
      refine (toReceipt_any r _).mono ?_
      rintro e wB ⟨rfl, h1⟩
      replace HY := hU (HY.out.ext h1)
      replace BQ := hU (BQ.out.ext h1)
      refine hK.out _ _ ⟨_, rfl⟩ (hH.next h1) (fun hH2 => ?_)
      clear hK K' hH h1
      have hH := hH2
      clear hH2
      (try simp only [fillA, Act.put, pz1, pz2, pz3])
      refine oneH 4 (oi := _) (some 34) (by kernel_rfl) rfl rfl rfl (fun K' hK => ?_)
      refine ⟨?_⟩
      rw [if_pos (by rfl)]
      go_simp
      refine (SP.out _ _ _ HY.out.rd).mono ?_
      rintro e wC ⟨M, u, rfl, hm, hu, h1⟩
      replace HY := hU (HY.out.ext h1)
      replace BQ := hU (BQ.out.ext h1)
      have HM := hU (hm.base hH.size); have HU := hU (hu.base hH.size)
      clear hm hu
      refine hK.out _ _ ⟨_, rfl⟩ (hH.next h1) (fun hH2 => ?_)
      clear hK K' hH h1
      have hH := hH2
      clear hH2
      (try simp only [fillA, Act.put, pz1, pz2, pz3])
      refine takeQ 5 (.tuple #[.agg M.toArray, u, .int .i64 (cc : Int)]) (some 29) rfl rfl (by kernel_rfl) (Or.inl ⟨by rfl, ?yg8abcc1⟩) hH ?rg8abcc1
      case yg8abcc1 => intro w' hS'; go_simp; try with_reducible rfl
      (try simp only [Act.put, pz1, pz2, pz3])
      refine takeQ 6 (.agg M.toArray) (some 35) rfl rfl (by kernel_rfl) (Or.inl ⟨by rfl, ?yg8abcc2⟩) hH ?rg8abcc2
      case yg8abcc2 => intro w' hS'; go_simp; try with_reducible rfl
      (try simp only [Act.put, pz1, pz2, pz3])
      refine takeQ 7 (u) (some 36) rfl rfl (by kernel_rfl) (Or.inl ⟨by rfl, ?yg8abcc3⟩) hH ?rg8abcc3
      case yg8abcc3 => intro w' hS'; go_simp; try with_reducible rfl
      (try simp only [Act.put, pz1, pz2, pz3])
      refine takeQ 8 (.int .i64 (cc : Int)) (some 37) rfl rfl (by kernel_rfl) (Or.inl ⟨by rfl, ?yg8abcc4⟩) hH ?rg8abcc4
      case yg8abcc4 => intro w' hS'; go_simp; try with_reducible rfl
      (try simp only [Act.put, pz1, pz2, pz3])
      have Tq := hU (show World.there wC q 0 M.length by rw [HM.out.len]; exact BQ.out.there 0 13 (by simp))
      have bz := put_whole BQ.out M (by rw [HM.out.len]; rfl)
      have mz := HM.out.put BQ.out M 0
      have uz := HU.out.put BQ.out M 0
      refine oneH 10 (oi := _) none (by kernel_rfl) rfl rfl rfl (fun K' hK => ?_)
      refine ⟨?_⟩
      rw [if_pos (by rfl)]
      refine wp_store_lst 59 _ _ rfl rfl q 0 M rfl rfl Tq.out (by rw [HM.out.len]; kernel_rfl) HM.out.one ?_
      refine hK.out _ _ ⟨undef, rfl⟩ (ext_setCells (W := w5) QB.out M 0 _ hH) (fun hH2 => ?_)
      clear hK K' hH Tq
      have hH := hH2
      clear hH2
      (try simp only [fillA, Act.put, pz1, pz2, pz3])
      refine takeQ 11 (u) (some 7) rfl rfl (by kernel_rfl) (Or.inl ⟨by rfl, ?yg8abcc5⟩) hH ?rg8abcc5
      case yg8abcc5 => intro w' hS'; go_simp; try with_reducible rfl
      (try simp only [Act.put, pz1, pz2, pz3])
      refine takeQ 12 (.int .i64 (cc : Int)) (some 8) rfl rfl (by kernel_rfl) (Or.inl ⟨by rfl, ?yg8abcc6⟩) hH ?rg8abcc6
      case yg8abcc6 => intro w' hS'; go_simp; try with_reducible rfl
      (try simp only [Act.put, pz1, pz2, pz3])
      refine wpAnyH_done (by kernel_rfl) ?_ _
      (try go_wp2_with fail)
      go_meet
      case rel => exact ⟨q, M, u, rfl, rfl, rfl, bz, mz, uz, QB.out, hH⟩
  · skip
    have h1 := Ext.new (Below.refl w0.heap.size w0) (.cells #[.int .i64 0, .slice none 0 0, .slice none 0 0, .slice none 0 0, .int .i64 0, .slice none 0 0, .int .i64 0, .slice none 0 0, .int .i64 0, .int .i64 0, .string ⟨#[]⟩, .int .i64 0, .string ⟨#[]⟩] 59)
    obtain ⟨q, hq⟩ : ∃ q, q = w0.heap.size := ⟨_, rfl⟩
    have bq := Blk.new w0 59 #[.int .i64 0, .slice none 0 0, .slice none 0 0, .slice none 0 0, .int .i64 0, .slice none 0 0, .int .i64 0, .slice none 0 0, .int .i64 0, .int .i64 0, .string ⟨#[]⟩, .int .i64 0, .string ⟨#[]⟩]
    rw [← hq] at bq
    have QB := hU (show w5.heap.size ≤ q by have := hH.size; omega)
    obtain ⟨wQ, hu_, h1, bq⟩ : ∃ u, u = w0.alloc (.cells #[.int .i64 0, .slice none 0 0, .slice none 0 0, .slice none 0 0, .int .i64 0, .slice none 0 0, .int .i64 0, .slice none 0 0, .int .i64 0, .int .i64 0, .string ⟨#[]⟩, .int .i64 0, .string ⟨#[]⟩] 59) ∧ Ext w0 u ∧ Blk u q 59 #[.int .i64 0, .slice none 0 0, .slice none 0 0, .slice none 0 0, .int .i64 0, .slice none 0 0, .int .i64 0, .slice none 0 0, .int .i64 0, .int .i64 0, .string ⟨#[]⟩, .int .i64 0, .string ⟨#[]⟩] := ⟨_, rfl, h1, bq⟩
    have HUU := hU hu_; have HQQ := hU hq
    clear hu_ hq
    refine ⟨?_⟩
    rw [if_pos (by rfl)]
    go_simp
    rw [← HUU.out, ← HQQ.out]
    have BQ := hU bq
    clear bq
    refine hK.out _ _ ⟨_, rfl⟩ (hH.next h1) (fun hH2 => ?_)
    clear hK K' hH h1 HUU HQQ
    have hH := hH2
    clear hH2
    (try simp only [fillA, Act.put, pz1, pz2, pz3])
    refine oneH 1 (oi := _) (some 31) (by kernel_rfl) rfl rfl rfl (fun K' hK => ?_)
    refine ⟨?_⟩
    rw [if_pos (by rfl)]
    go_simp
    refine (TOB.out _ (he.next hH)).mono ?_
    rintro e wA ⟨Y, rfl, hy, h1⟩
    replace BQ := hU (BQ.out.ext h1)
    have HY := hU hy
    clear hy
    refine hK.out _ _ ⟨_, rfl⟩ (hH.next h1) (fun hH2 => ?_)
    clear hK K' hH h1
    have hH := hH2
    clear hH2
    (try simp only [fillA, Act.put, pz1, pz2, pz3])
    refine oneH 3 (oi := _) (some 33) (by kernel_rfl) rfl rfl rfl (fun K' hK => ?_)
    refine ⟨?_⟩
    rw [if_pos (by rfl)]
    go_simp
    refine (toReceipt_any r _).mono ?_
    rintro e wB ⟨rfl, h1⟩
    replace BQ := hU (BQ.out.ext h1)
    replace HY := hU (HY.out.ext h1)
    refine hK.out _ _ ⟨_, rfl⟩ (hH.next h1) (fun hH2 => ?_)
    clear hK K' hH h1
    have hH := hH2
    clear hH2
    (try simp only [fillA, Act.put, pz1, pz2, pz3])
    refine oneH 4 (oi := _) (some 34) (by kernel_rfl) rfl rfl rfl (fun K' hK => ?_)
    refine ⟨?_⟩
    rw [if_pos (by rfl)]
    go_simp
    refine (SP.out _ _ _ HY.out.rd).mono ?_
    rintro e wC ⟨M, u, rfl, hm, hu, h1⟩
    replace BQ := hU (BQ.out.ext h1)
    replace HY := hU (HY.out.ext h1)
    have HM := hU (hm.base hH.size); have HU := hU (hu.base hH.size)
    clear hm hu
    refine hK.out _ _ ⟨_, rfl⟩ (hH.next h1) (fun hH2 => ?_)
    clear hK K' hH h1
    have hH := hH2
    clear hH2
    (try simp only [fillA, Act.put, pz1, pz2, pz3])
    refine takeQ 5 (.tuple #[.agg M.toArray, u, .int .i64 (cc : Int)]) (some 29) rfl rfl (by kernel_rfl) (Or.inl ⟨by rfl, ?yg8bccc1⟩) hH ?rg8bccc1
    case yg8bccc1 => intro w' hS'; go_simp; try with_reducible rfl
    (try simp only [Act.put, pz1, pz2, pz3])
    refine takeQ 6 (.agg M.toArray) (some 35) rfl rfl (by kernel_rfl) (Or.inl ⟨by rfl, ?yg8bccc2⟩) hH ?rg8bccc2
    case yg8bccc2 => intro w' hS'; go_simp; try with_reducible rfl
    (try simp only [Act.put, pz1, pz2, pz3])
    refine takeQ 7 (u) (some 36) rfl rfl (by kernel_rfl) (Or.inl ⟨by rfl, ?yg8bccc3⟩) hH ?rg8bccc3
    case yg8bccc3 => intro w' hS'; go_simp; try with_reducible rfl
    (try simp only [Act.put, pz1, pz2, pz3])
    refine takeQ 8 (.int .i64 (cc : Int)) (some 37) rfl rfl (by kernel_rfl) (Or.inl ⟨by rfl, ?yg8bccc4⟩) hH ?rg8bccc4
    case yg8bccc4 => intro w' hS'; go_simp; try with_reducible rfl
    (try simp only [Act.put, pz1, pz2, pz3])
    have Tq := hU (show World.there wC q 0 M.length by rw [HM.out.len]; exact BQ.out.there 0 13 (by simp))
    have bz := put_whole BQ.out M (by rw [HM.out.len]; rfl)
    have mz := HM.out.put BQ.out M 0
    have uz := HU.out.put BQ.out M 0
    refine oneH 10 (oi := _) none (by kernel_rfl) rfl rfl rfl (fun K' hK => ?_)
    refine ⟨?_⟩
    rw [if_pos (by rfl)]
    refine wp_store_lst 59 _ _ rfl rfl q 0 M rfl rfl Tq.out (by rw [HM.out.len]; kernel_rfl) HM.out.one ?_
    refine hK.out _ _ ⟨undef, rfl⟩ (ext_setCells (W := w5) QB.out M 0 _ hH) (fun hH2 => ?_)
    clear hK K' hH Tq
    have hH := hH2
    clear hH2
    (try simp only [fillA, Act.put, pz1, pz2, pz3])
    refine takeQ 11 (u) (some 7) rfl rfl (by kernel_rfl) (Or.inl ⟨by rfl, ?yg8bccc5⟩) hH ?rg8bccc5
    case yg8bccc5 => intro w' hS'; go_simp; try with_reducible rfl
    (try simp only [Act.put, pz1, pz2, pz3])
    refine takeQ 12 (.int .i64 (cc : Int)) (some 8) rfl rfl (by kernel_rfl) (Or.inl ⟨by rfl, ?yg8bccc6⟩) hH ?rg8bccc6
    case yg8bccc6 => intro w' hS'; go_simp; try with_reducible rfl
    (try simp only [Act.put, pz1, pz2, pz3])
    refine wpAnyH_done (by kernel_rfl) ?_ _
    (try go_wp2_with fail)
    go_meet
    case rel => exact ⟨q, M, u, rfl, rfl, rfl, bz, mz, uz, QB.out, hH⟩
 case rest =>
 obtain ⟨q0, M, um, rfl, rfl, rfl, bq, hm, hu, hq, h1⟩ := hcut
 obtain ⟨w8, rfl⟩ := blk_w bq
 replace he := he.next h1; replace B1 := B1.ext h1; replace B2 := B2.ext h1
 obtain ⟨N8, hN8⟩ : ∃ N8, N8 = w8.heap.size := ⟨_, rfl⟩
 have Q0 := bq
 have RM := hU hm.rd; have WM := hU hu.rd
 have HM13 := hU hm.len
 rw [← hN8] at RM WM
 have q0N : q0 < N8 := by rw [hN8]; exact bq.lt
 have g1N : g1 < N8 := by rw [hN8]; exact B1.lt
 have g2N : g2 < N8 := by rw [hN8]; exact B2.lt
 have wN : w.heap.size ≤ N8 := by rw [hN8]; exact he.size
 clear bq hm hu hq h1 SP
 have RX := hU (Blk.range B1)
 go_wp2_with (refine wpList_load_mid rfl 43 _ rfl g1 0 rfl cs _ RX.out Tryz.underlying43 rfl (by rw [HL13.out]; kernel_rfl) ?_)
 refine (TOB.out _ he).mono ?_
 rintro e w9 ⟨X, rfl, hx, h1⟩
 rw [← hN8] at hx
 replace he := he.next h1; replace B1 := B1.ext h1; replace B2 := B2.ext h1; replace Q0 := Q0.ext h1; replace RM := hU (RM.out.ext h1); replace WM := hU (WM.out.ext h1)
 have h89 := h1.size
 clear h1 RX
 have KZ := Blk.new w9 59 #[.int .i64 0, .slice none 0 0, .slice none 0 0, .slice none 0 0, .int .i64 0, .slice none 0 0, .int .i64 0, .slice none 0 0, .int .i64 0, .int .i64 0, .string ⟨#[]⟩, .int .i64 0, .string ⟨#[]⟩]
 obtain ⟨w10, hwa, K9, hx2⟩ : ∃ wa, wa = (w9.alloc (.cells #[.int .i64 0, .slice none 0 0, .slice none 0 0, .slice none 0 0, .int .i64 0, .slice none 0 0, .int .i64 0, .slice none 0 0, .int .i64 0, .int .i64 0, .string ⟨#[]⟩, .int .i64 0, .string ⟨#[]⟩] 59)).setCells w9.heap.size 0 X ∧ Blk wa w9.heap.size 59 X.toArray ∧ Ext w9 wa := ⟨_, rfl, put_whole KZ X (by rw [hx.len]; rfl), ext_setCells (W := w9) (Nat.le_refl _) X 0 _ (Ext.new (Below.refl _ _) _)⟩
 have T4 := hU (show World.there (w9.alloc (.cells #[.int .i64 0, .slice none 0 0, .slice none 0 0, .slice none 0 0, .int .i64 0, .slice none 0 0, .int .i64 0, .slice none 0 0, .int .i64 0, .int .i64 0, .string ⟨#[]⟩, .int .i64 0, .string ⟨#[]⟩] 59)) w9.heap.size 0 X.length by rw [hx.len]; exact KZ.there 0 13 (by simp)); have HW := hU hwa
 have HX13 := hU hx.len; have HX1 := hU hx.one
 clear hwa KZ
 replace he := he.next hx2; replace B1 := B1.ext hx2; replace B2 := B2.ext hx2; replace Q0 := Q0.ext hx2; replace RM := hU (RM.out.ext hx2); replace WM := hU (WM.out.ext hx2)
 go_upto_region 10 with (refine wpList_store_list rfl 59 _ _ rfl rfl w9.heap.size 0 X rfl rfl T4.out (by rw [HX13.out]; kernel_rfl) HX1.out ?_; rw [← HW.out])
 obtain ⟨k9, hg⟩ : ∃ k9, k9 = w9.heap.size := ⟨_, rfl⟩
 rw [← hg] at K9
 rw [← hg]
 have LX := hU (show ∀ x, LBlk X x → N8 ≤ x ∧ x < k9 from fun x h => by have h2 := hx.lt x h; rw [← hg] at h2; exact h2)
 have HX := hU (hx.ext hx2)
 have kN : N8 ≤ k9 := by rw [hg, hN8]; exact h89
 clear T4 HW HX1 hx hx2 hg hN8
 have K9a := K9.lt
 go_upto_region 10 with fail
 go_cut [10, 11, 12] (fun vq vu vc wx => ∃ (q : Nat) (M : List Value) (u : Value), vq = .pointer (some ⟨q, 0, none⟩) ∧ u = vu ∧ vc = .int .i64 (cc : Int) ∧ Blk wx q 59 M.toArray ∧ BVal w10.heap.size B M wx ∧ WVal w10.heap.size Wr u wx ∧ w10.heap.size ≤ q ∧ Ext w10 wx)
 case first =>
  refine wp_region_held_drew (S := fun w' => Ext w10 w') (by kernel_rfl) (Below.refl _ _).drew (fun hH => ?_)
  generalize w10.drew = w0 at *
  refine wpAnyH_take (i := 0) (oi := _) (v := _) rfl (by kernel_rfl) (by kernel_rfl) (by kernel_rfl) (fun _ _ _ h => h) (yieldsIf_load_mid (by rfl) 59 _ rfl k9 0 rfl X _ (fun w' h => Blk.range (K9.ext h)) Tryz.underlying59 rfl (by rw [HX13.out]; kernel_rfl)) hH ?_
  (try simp only [fillA, Act.put, pz1, pz2, pz3])
  refine wpAnyH_take (i := 1) (oi := _) (v := _) rfl (by kernel_rfl) (by kernel_rfl) (by kernel_rfl) (fun _ _ _ h => h) (yieldsIf_load_mid (by rfl) 74 _ rfl g2 0 rfl [.string r.reader, .string r.topic, .int .i64 r.index] _ (fun w' h => Blk.range (B2.ext h)) Tryz.underlying74 rfl (by kernel_rfl)) hH ?_
  (try simp only [fillA, Act.put, pz1, pz2, pz3])
  refine twoH 2 8 (oi := _) (oj := _) (some 43) (some 10) (by kernel_rfl) rfl rfl rfl rfl rfl rfl (fun K' hK => ?_) (fun K' hK => ?_)
  · skip
    refine ⟨?_⟩
    rw [if_pos (by rfl)]
    go_simp
    refine (toReceipt_any r _).mono ?_
    rintro e wA ⟨rfl, h1⟩
    refine hK.out _ _ ⟨_, rfl⟩ (hH.next h1) (fun hH2 => ?_)
    clear hK K' hH h1
    have hH := hH2
    clear hH2
    (try simp only [fillA, Act.put, pz1, pz2, pz3])
    refine twoH 3 8 (oi := _) (oj := _) (some 44) (some 10) (by kernel_rfl) rfl rfl rfl rfl rfl rfl (fun K' hK => ?_) (fun K' hK => ?_)
    · skip
      refine ⟨?_⟩
      rw [if_pos (by rfl)]
      go_simp
      refine (IM.out _ _ _ (HX.out.ext hH).rd).mono ?_
      rintro e wB ⟨M, u, rfl, hm, hu, h1⟩
      have HM := hU (hm.base hH.size); have HU := hU (hu.base hH.size)
      clear hm hu
      refine hK.out _ _ ⟨_, rfl⟩ (hH.next h1) (fun hH2 => ?_)
      clear hK K' hH h1
      have hH := hH2
      clear hH2
      (try simp only [fillA, Act.put, pz1, pz2, pz3])
      refine takeQ 4 (.tuple #[.agg M.toArray, u, .int .i64 (cc : Int)]) (some 40) rfl rfl (by kernel_rfl) (Or.inl ⟨by rfl, ?yg10aa1⟩) hH ?rg10aa1
      case yg10aa1 => intro w' hS'; go_simp; try with_reducible rfl
      (try simp only [Act.put, pz1, pz2, pz3])
      refine takeQ 5 (.agg M.toArray) (some 45) rfl rfl (by kernel_rfl) (Or.inl ⟨by rfl, ?yg10aa2⟩) hH ?rg10aa2
      case yg10aa2 => intro w' hS'; go_simp; try with_reducible rfl
      (try simp only [Act.put, pz1, pz2, pz3])
      refine takeQ 6 (u) (some 46) rfl rfl (by kernel_rfl) (Or.inl ⟨by rfl, ?yg10aa3⟩) hH ?rg10aa3
      case yg10aa3 => intro w' hS'; go_simp; try with_reducible rfl
      (try simp only [Act.put, pz1, pz2, pz3])
      refine takeQ 7 (.int .i64 (cc : Int)) (some 47) rfl rfl (by kernel_rfl) (Or.inl ⟨by rfl, ?yg10aa4⟩) hH ?rg10aa4
      case yg10aa4 => intro w' hS'; go_simp; try with_reducible rfl
      (try simp only [Act.put, pz1, pz2, pz3])
      refine oneH 8 (oi := _) (some 10) (by kernel_rfl) rfl rfl rfl (fun K' hK => ?_)
      have h1 := Ext.new (Below.refl wB.heap.size wB) (.cells #[.int .i64 0, .slice none 0 0, .slice none 0 0, .slice none 0 0, .int .i64 0, .slice none 0 0, .int .i64 0, .slice none 0 0, .int .i64 0, .int .i64 0, .string ⟨#[]⟩, .int .i64 0, .string ⟨#[]⟩] 59)
      obtain ⟨q, hq⟩ : ∃ q, q = wB.heap.size := ⟨_, rfl⟩
      have bq := Blk.new wB 59 #[.int .i64 0, .slice none 0 0, .slice none 0 0, .slice none 0 0, .int .i64 0, .slice none 0 0, .int .i64 0, .slice none 0 0, .int .i64 0, .int .i64 0, .string ⟨#[]⟩, .int .i64 0, .string ⟨#[]⟩]
      rw [← hq] at bq
      have QB := hU (show w10.heap.size ≤ q by have := hH.size; omega)
      obtain ⟨wF, hu_, h1, bq⟩ : ∃ u, u = wB.alloc (.cells #[.int .i64 0, .slice none 0 0, .slice none 0 0, .slice none 0 0, .int .i64 0, .slice none 0 0, .int .i64 0, .slice none 0 0, .int .i64 0, .int .i64 0, .string ⟨#[]⟩, .int .i64 0, .string ⟨#[]⟩] 59) ∧ Ext wB u ∧ Blk u q 59 #[.int .i64 0, .slice none 0 0, .slice none 0 0, .slice none 0 0, .int .i64 0, .slice none 0 0, .int .i64 0, .slice none 0 0, .int .i64 0, .int .i64 0, .string ⟨#[]⟩, .int .i64 0, .string ⟨#[]⟩] := ⟨_, rfl, h1, bq⟩
      have HUU := hU hu_; have HQQ := hU hq
      clear hu_ hq
      refine ⟨?_⟩
      rw [if_pos (by rfl)]
      go_simp
      rw [← HUU.out, ← HQQ.out]
      replace HM := hU (HM.out.ext h1)
      replace HU := hU (HU.out.ext h1)
      have BQ := hU bq
      clear bq
      refine hK.out _ _ ⟨_, rfl⟩ (hH.next h1) (fun hH2 => ?_)
      clear hK K' hH h1 HUU HQQ
      have hH := hH2
      clear hH2
      (try simp only [fillA, Act.put, pz1, pz2, pz3])
      have Tq := hU (show World.there wF q 0 M.length by rw [HM.out.len]; exact BQ.out.there 0 13 (by simp))
      have bz := put_whole BQ.out M (by rw [HM.out.len]; rfl)
      have mz := HM.out.put BQ.out M 0
      have uz := HU.out.put BQ.out M 0
      refine oneH 9 (oi := _) none (by kernel_rfl) rfl rfl rfl (fun K' hK => ?_)
      refine ⟨?_⟩
      rw [if_pos (by rfl)]
      refine wp_store_lst 59 _ _ rfl rfl q 0 M rfl rfl Tq.out (by rw [HM.out.len]; kernel_rfl) HM.out.one ?_
      refine hK.out _ _ ⟨undef, rfl⟩ (ext_setCells (W := w10) QB.out M 0 _ hH) (fun hH2 => ?_)
      clear hK K' hH Tq
      have hH := hH2
      clear hH2
      (try simp only [fillA, Act.put, pz1, pz2, pz3])
      refine takeQ 10 (u) (some 11) rfl rfl (by kernel_rfl) (Or.inl ⟨by rfl, ?yg10aa5⟩) hH ?rg10aa5
      case yg10aa5 => intro w' hS'; go_simp; try with_reducible rfl
      (try simp only [Act.put, pz1, pz2, pz3])
      refine takeQ 11 (.int .i64 (cc : Int)) (some 12) rfl rfl (by kernel_rfl) (Or.inl ⟨by rfl, ?yg10aa6⟩) hH ?rg10aa6
      case yg10aa6 => intro w' hS'; go_simp; try with_reducible rfl
      (try simp only [Act.put, pz1, pz2, pz3])
      refine wpAnyH_done (by kernel_rfl) ?_ _
      (try go_wp2_with fail)
      go_meet
      case rel => exact ⟨q, M, u, rfl, rfl, rfl, bz, mz, uz, QB.out, hH⟩
    · skip
      have h1 := Ext.new (Below.refl wA.heap.size wA) (.cells #[.int .i64 0, .slice none 0 0, .slice none 0 0, .slice none 0 0, .int .i64 0, .slice none 0 0, .int .i64 0, .slice none 0 0, .int .i64 0, .int .i64 0, .string ⟨#[]⟩, .int .i64 0, .string ⟨#[]⟩] 59)
      obtain ⟨q, hq⟩ : ∃ q, q = wA.heap.size := ⟨_, rfl⟩
      have bq := Blk.new wA 59 #[.int .i64 0, .slice none 0 0, .slice none 0 0, .slice none 0 0, .int .i64 0, .slice none 0 0, .int .i64 0, .slice none 0 0, .int .i64 0, .int .i64 0, .string ⟨#[]⟩, .int .i64 0, .string ⟨#[]⟩]
      rw [← hq] at bq
      have QB := hU (show w10.heap.size ≤ q by have := hH.size; omega)
      obtain ⟨wQ, hu_, h1, bq⟩ : ∃ u, u = wA.alloc (.cells #[.int .i64 0, .slice none 0 0, .slice none 0 0, .slice none 0 0, .int .i64 0, .slice none 0 0, .int .i64 0, .slice none 0 0, .int .i64 0, .int .i64 0, .string ⟨#[]⟩, .int .i64 0, .string ⟨#[]⟩] 59) ∧ Ext wA u ∧ Blk u q 59 #[.int .i64 0, .slice none 0 0, .slice none 0 0, .slice none 0 0, .int .i64 0, .slice none 0 0, .int .i64 0, .slice none 0 0, .int .i64 0, .int .i64 0, .string ⟨#[]⟩, .int .i64 0, .string ⟨#[]⟩] := ⟨_, rfl, h1, bq⟩
      have HUU := hU hu_; have HQQ := hU hq
      clear hu_ hq
      refine ⟨?_⟩
      rw [if_pos (by rfl)]
      go_simp
      rw [← HUU.out, ← HQQ.out]
      have BQ := hU bq
      clear bq
      refine hK.out _ _ ⟨_, rfl⟩ (hH.next h1) (fun hH2 => ?_)
      clear hK K' hH h1 HUU HQQ
      have hH := hH2
      clear hH2
      (try simp only [fillA, Act.put, pz1, pz2, pz3])
      refine oneH 3 (oi := _) (some 44) (by kernel_rfl) rfl rfl rfl (fun K' hK => ?_)
      refine ⟨?_⟩
      rw [if_pos (by rfl)]
      go_simp
      refine (IM.out _ _ _ (HX.out.ext hH).rd).mono ?_
      rintro e wB ⟨M, u, rfl, hm, hu, h1⟩
      replace BQ := hU (BQ.out.ext h1)
      have HM := hU (hm.base hH.size); have HU := hU (hu.base hH.size)
      clear hm hu
      refine hK.out _ _ ⟨_, rfl⟩ (hH.next h1) (fun hH2 => ?_)
      clear hK K' hH h1
      have hH := hH2
      clear hH2
      (try simp only [fillA, Act.put, pz1, pz2, pz3])
      refine takeQ 4 (.tuple #[.agg M.toArray, u, .int .i64 (cc : Int)]) (some 40) rfl rfl (by kernel_rfl) (Or.inl ⟨by rfl, ?yg10abc1⟩) hH ?rg10abc1
      case yg10abc1 => intro w' hS'; go_simp; try with_reducible rfl
      (try simp only [Act.put, pz1, pz2, pz3])
      refine takeQ 5 (.agg M.toArray) (some 45) rfl rfl (by kernel_rfl) (Or.inl ⟨by rfl, ?yg10abc2⟩) hH ?rg10abc2
      case yg10abc2 => intro w' hS'; go_simp; try with_reducible rfl
      (try simp only [Act.put, pz1, pz2, pz3])
      refine takeQ 6 (u) (some 46) rfl rfl (by kernel_rfl) (Or.inl ⟨by rfl, ?yg10abc3⟩) hH ?rg10abc3
      case yg10abc3 => intro w' hS'; go_simp; try with_reducible rfl
      (try simp only [Act.put, pz1, pz2, pz3])
      refine takeQ 7 (.int .i64 (cc : Int)) (some 47) rfl rfl (by kernel_rfl) (Or.inl ⟨by rfl, ?yg10abc4⟩) hH ?rg10abc4
      case yg10abc4 => intro w' hS'; go_simp; try with_reducible rfl
      (try simp only [Act.put, pz1, pz2, pz3])
      have Tq := hU (show World.there wB q 0 M.length by rw [HM.out.len]; exact BQ.out.there 0 13 (by simp))
      have bz := put_whole BQ.out M (by rw [HM.out.len]; rfl)
      have mz := HM.out.put BQ.out M 0
      have uz := HU.out.put BQ.out M 0
      refine oneH 9 (oi := _) none (by kernel_rfl) rfl rfl rfl (fun K' hK => ?_)
      refine ⟨?_⟩
      rw [if_pos (by rfl)]
      refine wp_store_lst 59 _ _ rfl rfl q 0 M rfl rfl Tq.out (by rw [HM.out.len]; kernel_rfl) HM.out.one ?_
      refine hK.out _ _ ⟨undef, rfl⟩ (ext_setCells (W := w10) QB.out M 0 _ hH) (fun hH2 => ?_)
      clear hK K' hH Tq
      have hH := hH2
      clear hH2
      (try simp only [fillA, Act.put, pz1, pz2, pz3])
      refine takeQ 10 (u) (some 11) rfl rfl (by kernel_rfl) (Or.inl ⟨by rfl, ?yg10abc5⟩) hH ?rg10abc5
      case yg10abc5 => intro w' hS'; go_simp; try with_reducible rfl
      (try simp only [Act.put, pz1, pz2, pz3])
      refine takeQ 11 (.int .i64 (cc : Int)) (some 12) rfl rfl (by kernel_rfl) (Or.inl ⟨by rfl, ?yg10abc6⟩) hH ?rg10abc6
      case yg10abc6 => intro w' hS'; go_simp; try with_reducible rfl
      (try simp only [Act.put, pz1, pz2, pz3])
      refine wpAnyH_done (by kernel_rfl) ?_ _
      (try go_wp2_with fail)
      go_meet
      case rel => exact ⟨q, M, u, rfl, rfl, rfl, bz, mz, uz, QB.out, hH⟩
  · skip
    have h1 := Ext.new (Below.refl w0.heap.size w0) (.cells #[.int .i64 0, .slice none 0 0, .slice none 0 0, .slice none 0 0, .int .i64 0, .slice none 0 0, .int .i64 0, .slice none 0 0, .int .i64 0, .int .i64 0, .string ⟨#[]⟩, .int .i64 0, .string ⟨#[]⟩] 59)
    obtain ⟨q, hq⟩ : ∃ q, q = w0.heap.size := ⟨_, rfl⟩
    have bq := Blk.new w0 59 #[.int .i64 0, .slice none 0 0, .slice none 0 0, .slice none 0 0, .int .i64 0, .slice none 0 0, .int .i64 0, .slice none 0 0, .int .i64 0, .int .i64 0, .string ⟨#[]⟩, .int .i64 0, .string ⟨#[]⟩]
    rw [← hq] at bq
    have QB := hU (show w10.heap.size ≤ q by have := hH.size; omega)
    obtain ⟨wQ, hu_, h1, bq⟩ : ∃ u, u = w0.alloc (.cells #[.int .i64 0, .slice none 0 0, .slice none 0 0, .slice none 0 0, .int .i64 0, .slice none 0 0, .int .i64 0, .slice none 0 0, .int .i64 0, .int .i64 0, .string ⟨#[]⟩, .int .i64 0, .string ⟨#[]⟩] 59) ∧ Ext w0 u ∧ Blk u q 59 #[.int .i64 0, .slice none 0 0, .slice none 0 0, .slice none 0 0, .int .i64 0, .slice none 0 0, .int .i64 0, .slice none 0 0, .int .i64 0, .int .i64 0, .string ⟨#[]⟩, .int .i64 0, .string ⟨#[]⟩] := ⟨_, rfl, h1, bq⟩
    have HUU := hU hu_; have HQQ := hU hq
    clear hu_ hq
    refine ⟨?_⟩
    rw [if_pos (by rfl)]
    go_simp
    rw [← HUU.out, ← HQQ.out]
    have BQ := hU bq
    clear bq
    refine hK.out _ _ ⟨_, rfl⟩ (hH.next h1) (fun hH2 => ?_)
    clear hK K' hH h1 HUU HQQ
    have hH := hH2
    clear hH2
    (try simp only [fillA, Act.put, pz1, pz2, pz3])
    refine oneH 2 (oi := _) (some 43) (by kernel_rfl) rfl rfl rfl (fun K' hK => ?_)
    refine ⟨?_⟩
    rw [if_pos (by rfl)]
    go_simp
    refine (toReceipt_any r _).mono ?_
    rintro e wA ⟨rfl, h1⟩
    replace BQ := hU (BQ.out.ext h1)
    refine hK.out _ _ ⟨_, rfl⟩ (hH.next h1) (fun hH2 => ?_)
    clear hK K' hH h1
    have hH := hH2
    clear hH2
    (try simp only [fillA, Act.put, pz1, pz2, pz3])
    refine oneH 3 (oi := _) (some 44) (by kernel_rfl) rfl rfl rfl (fun K' hK => ?_)
    refine ⟨?_⟩
    rw [if_pos (by rfl)]
    go_simp
    refine (IM.out _ _ _ (HX.out.ext hH).rd).mono ?_
    rintro e wB ⟨M, u, rfl, hm, hu, h1⟩
    replace BQ := hU (BQ.out.ext h1)
    have HM := hU (hm.base hH.size); have HU := hU (hu.base hH.size)
    clear hm hu
    refine hK.out _ _ ⟨_, rfl⟩ (hH.next h1) (fun hH2 => ?_)
    clear hK K' hH h1
    have hH := hH2
    clear hH2
    (try simp only [fillA, Act.put, pz1, pz2, pz3])
    refine takeQ 4 (.tuple #[.agg M.toArray, u, .int .i64 (cc : Int)]) (some 40) rfl rfl (by kernel_rfl) (Or.inl ⟨by rfl, ?yg10bcc1⟩) hH ?rg10bcc1
    case yg10bcc1 => intro w' hS'; go_simp; try with_reducible rfl
    (try simp only [Act.put, pz1, pz2, pz3])
    refine takeQ 5 (.agg M.toArray) (some 45) rfl rfl (by kernel_rfl) (Or.inl ⟨by rfl, ?yg10bcc2⟩) hH ?rg10bcc2
    case yg10bcc2 => intro w' hS'; go_simp; try with_reducible rfl
    (try simp only [Act.put, pz1, pz2, pz3])
    refine takeQ 6 (u) (some 46) rfl rfl (by kernel_rfl) (Or.inl ⟨by rfl, ?yg10bcc3⟩) hH ?rg10bcc3
    case yg10bcc3 => intro w' hS'; go_simp; try with_reducible rfl
    (try simp only [Act.put, pz1, pz2, pz3])
    refine takeQ 7 (.int .i64 (cc : Int)) (some 47) rfl rfl (by kernel_rfl) (Or.inl ⟨by rfl, ?yg10bcc4⟩) hH ?rg10bcc4
    case yg10bcc4 => intro w' hS'; go_simp; try with_reducible rfl
    (try simp only [Act.put, pz1, pz2, pz3])
    have Tq := hU (show World.there wB q 0 M.length by rw [HM.out.len]; exact BQ.out.there 0 13 (by simp))
    have bz := put_whole BQ.out M (by rw [HM.out.len]; rfl)
    have mz := HM.out.put BQ.out M 0
    have uz := HU.out.put BQ.out M 0
    refine oneH 9 (oi := _) none (by kernel_rfl) rfl rfl rfl (fun K' hK => ?_)
    refine ⟨?_⟩
    rw [if_pos (by rfl)]
    refine wp_store_lst 59 _ _ rfl rfl q 0 M rfl rfl Tq.out (by rw [HM.out.len]; kernel_rfl) HM.out.one ?_
    refine hK.out _ _ ⟨undef, rfl⟩ (ext_setCells (W := w10) QB.out M 0 _ hH) (fun hH2 => ?_)
    clear hK K' hH Tq
    have hH := hH2
    clear hH2
    (try simp only [fillA, Act.put, pz1, pz2, pz3])
    refine takeQ 10 (u) (some 11) rfl rfl (by kernel_rfl) (Or.inl ⟨by rfl, ?yg10bcc5⟩) hH ?rg10bcc5
    case yg10bcc5 => intro w' hS'; go_simp; try with_reducible rfl
    (try simp only [Act.put, pz1, pz2, pz3])
    refine takeQ 11 (.int .i64 (cc : Int)) (some 12) rfl rfl (by kernel_rfl) (Or.inl ⟨by rfl, ?yg10bcc6⟩) hH ?rg10bcc6
    case yg10bcc6 => intro w' hS'; go_simp; try with_reducible rfl
    (try simp only [Act.put, pz1, pz2, pz3])
    refine wpAnyH_done (by kernel_rfl) ?_ _
    (try go_wp2_with fail)
    go_meet
    case rel => exact ⟨q, M, u, rfl, rfl, rfl, bz, mz, uz, QB.out, hH⟩
 case rest =>
 obtain ⟨q1, G, ug, rfl, rfl, rfl, bq, hm, hu, hq, h1⟩ := hcut
 obtain ⟨w11, rfl⟩ := blk_w bq
 replace he := he.next h1; replace B1 := B1.ext h1; replace B2 := B2.ext h1; replace Q0 := Q0.ext h1; replace RM := hU (RM.out.ext h1); replace WM := hU (WM.out.ext h1); replace K9 := K9.ext h1; replace HX := hU (HX.out.ext h1)
 have Q1 := bq
 have HG := hU hm; have WG := hU hu
 have HG13 := hU hm.len
 obtain ⟨N10, hN10⟩ : ∃ N10, N10 = w10.heap.size := ⟨_, rfl⟩
 rw [← hN10] at HG WG hq
 have LG := hU HG.out.lt; have LW := hU WG.out.lt
 have AW := hU (HG.out.apart WG.out (by decide) (by decide) (by decide) (by decide))
 have NG := hU (HG.out.ne Q1); have NW := hU (WG.out.ne Q1)
 have k9N : k9 < N10 := by rw [hN10]; exact K9a
 clear bq hm hu h1 hN10
 have R1 := hU (Blk.range Q1); have R0 := hU (Blk.range Q0)
 go_wp2_with (first | (refine wpList_load_mid rfl 59 _ rfl q1 0 rfl G _ R1.out Tryz.underlying59 rfl (by rw [HG13.out]; kernel_rfl) ?_) | (refine wpList_load_mid rfl 59 _ rfl q0 0 rfl M _ R0.out Tryz.underlying59 rfl (by rw [HM13.out]; kernel_rfl) ?_))
 refine (bvEq HG.out.rd RM.out BL.out).mono ?_
 rintro e w12 ⟨rfl, h1⟩
 replace he := he.next h1; replace B1 := B1.ext h1; replace B2 := B2.ext h1; replace Q0 := Q0.ext h1; replace RM := hU (RM.out.ext h1); replace WM := hU (WM.out.ext h1); replace K9 := K9.ext h1; replace HX := hU (HX.out.ext h1); replace Q1 := Q1.ext h1; replace HG := hU (HG.out.ext h1); replace WG := hU (WG.out.ext h1)
 clear h1 R0 R1
 go_wp2_with fail
 refine (bwEq WG.out.rd WM.out wl).mono ?_
 rintro e w13 ⟨rfl, h1⟩
 replace he := he.next h1; replace B1 := B1.ext h1; replace B2 := B2.ext h1; replace Q0 := Q0.ext h1; replace RM := hU (RM.out.ext h1); replace WM := hU (WM.out.ext h1); replace K9 := K9.ext h1; replace HX := hU (HX.out.ext h1); replace Q1 := Q1.ext h1; replace HG := hU (HG.out.ext h1); replace WG := hU (WG.out.ext h1)
 clear h1
 go_upto_region 13 with fail
 refine wp_region_held_drew (S := fun w' => Ext w13 w') (by kernel_rfl) (Below.refl _ _).drew (fun hH => ?_)
 refine wpAnyH_take (i := 0) (oi := _) (v := _) rfl (by kernel_rfl) (by kernel_rfl) (by kernel_rfl) (fun _ _ _ h => h) (yieldsIf_load_mid (by rfl) 59 _ rfl k9 0 rfl X _ (fun w' h => Blk.range (K9.ext h)) Tryz.underlying59 rfl (by rw [HX13.out]; kernel_rfl)) hH ?_
 (try simp only [fillA, Act.put, pz1, pz2, pz3])
 refine wpAnyH_take (i := 1) (oi := _) (v := _) rfl (by kernel_rfl) (by kernel_rfl) (by kernel_rfl) (fun _ _ _ h => h) (yieldsIf_load_mid (by rfl) 43 _ rfl g1 0 rfl cs _ (fun w' h => Blk.range (B1.ext h)) Tryz.underlying43 rfl (by rw [HL13.out]; kernel_rfl)) hH ?_
 (try simp only [fillA, Act.put, pz1, pz2, pz3])
 refine oneH 2 (oi := _) (some 65) (by kernel_rfl) rfl rfl rfl (fun K' hK => ?_)
 refine ⟨?_⟩
 rw [if_pos (by rfl)]
 go_simp
 refine (TOB.out _ (he.next hH)).mono ?_
 rintro e w14 ⟨Z, rfl, hz, h1⟩
 have HZ := hU hz
 clear hz
 refine hK.out _ _ ⟨_, rfl⟩ (hH.next h1) (fun hH2 => ?_)
 clear hK K' hH h1
 have hH := hH2
 clear hH2
 (try simp only [fillA, Act.put, pz1, pz2, pz3])
 refine oneH 3 (oi := _) (some 66) (by kernel_rfl) rfl rfl rfl (fun K' hK => ?_)
 refine ⟨?_⟩
 rw [if_pos (by rfl)]
 go_simp
 refine (bvEq (HX.out.ext hH).rd HZ.out.rd HF.out).mono ?_
 rintro e w15 ⟨rfl, h1⟩
 refine hK.out _ _ ⟨_, rfl⟩ (hH.next h1) (fun hH2 => ?_)
 clear hK K' hH h1
 have hH := hH2
 clear hH2
 (try simp only [fillA, Act.put, pz1, pz2, pz3])
 refine takeQ 4 (.bool false) (some 67) rfl rfl (by kernel_rfl) (Or.inl ⟨by rfl, ?yh1⟩) hH ?rh1
 case yh1 => intro w' hS'; go_simp; try with_reducible rfl
 (try simp only [Act.put, pz1, pz2, pz3])
 have h1 := hH
 clear hH HZ
 refine wpAnyH_done (by kernel_rfl) ?_ _
 replace he := he.next h1; replace B1 := B1.ext h1; replace B2 := B2.ext h1; replace Q0 := Q0.ext h1; replace RM := hU (RM.out.ext h1); replace WM := hU (WM.out.ext h1); replace K9 := K9.ext h1; replace HX := hU (HX.out.ext h1); replace Q1 := Q1.ext h1; replace HG := hU (HG.out.ext h1); replace WG := hU (WG.out.ext h1)
 clear h1
 have RX := hU (Blk.range K9)
 go_wp2_with (refine wpList_load_mid rfl 59 _ rfl k9 0 rfl X _ RX.out Tryz.underlying59 rfl (by rw [HX13.out]; kernel_rfl) ?_)
 refine (bvMark (k := 1) HX.out BLb.out (by decide)).mono ?_
 rintro e w16 ⟨rfl, _, f1⟩
 replace he : Ext w w16 := f1.toExt he (fun y hy e => by have := (LX.out _ e).1; omega)
 replace B1 := f1.blk B1 (fun e => by have := (LX.out _ e).1; omega); replace B2 := f1.blk B2 (fun e => by have := (LX.out _ e).1; omega); replace Q0 := f1.blk Q0 (fun e => by have := (LX.out _ e).1; omega); replace Q1 := f1.blk Q1 (fun e => by have := (LX.out _ e).2; omega)
 replace RM := hU (RM.out.keep (f1.keep (fun y _ hy e => by have := (LX.out _ e).1; omega)))
 replace WM := hU (WM.out.keep (f1.keep (fun y _ hy e => by have := (LX.out _ e).1; omega)))
 replace HG := hU (HG.out.frm f1 (fun y hy e => by have := (LX.out _ e).2; have := (LG.out _ hy).1; omega))
 have WG2 : WVal N10 Wr ug w16 := WG.out.frm f1 (fun y hy e => by have := (LX.out _ e).2; have := (LW.out _ hy).1; omega)
 replace WG := hU WG2
 obtain ⟨k1, hk1⟩ : ∃ k1, k1 = 1 + BrkN b := ⟨_, rfl⟩
 rw [← hk1]
 have q9 : (0 : Int) ≤ (k1 : Int) := by omega
 clear f1 WG2 RX HX K9 hk1
 have R1 := hU (Blk.range Q1); have R0 := hU (Blk.range Q0)
 go_wp2_with (first | (refine wpList_load_want (by rfl) 59 _ rfl q1 0 rfl G _ R1.out Tryz.underlying59 rfl (by rw [HG13.out]; kernel_rfl) ?_) | (refine wpList_load_want (by rfl) 59 _ rfl q0 0 rfl M _ R0.out Tryz.underlying59 rfl (by rw [HM13.out]; kernel_rfl) ?_))
 refine (bvEq HG.out.rd RM.out BL.out).mono ?_
 rintro e w17 ⟨rfl, h1⟩
 replace he := he.next h1; replace B1 := B1.ext h1; replace B2 := B2.ext h1; replace Q0 := Q0.ext h1; replace RM := hU (RM.out.ext h1); replace WM := hU (WM.out.ext h1); replace Q1 := Q1.ext h1; replace HG := hU (HG.out.ext h1); replace WG := hU (WG.out.ext h1)
 clear h1 R0 R1
 go_wp2_with fail
 refine (bwEq WG.out.rd WM.out wl).mono ?_
 rintro e w18 ⟨rfl, h1⟩
 replace he := he.next h1; replace B1 := B1.ext h1; replace B2 := B2.ext h1; replace Q0 := Q0.ext h1; replace RM := hU (RM.out.ext h1); replace WM := hU (WM.out.ext h1); replace Q1 := Q1.ext h1; replace HG := hU (HG.out.ext h1); replace WG := hU (WG.out.ext h1)
 clear h1
 have R1 := hU (Blk.range Q1)
 go_wp2_with (refine wpList_load_mid rfl 59 _ rfl q1 0 rfl G _ R1.out Tryz.underlying59 rfl (by rw [HG13.out]; kernel_rfl) ?_)
 refine (bvMark (k := 1) HG.out BLB.out (by decide)).mono ?_
 rintro e w20 ⟨rfl, mk, f1⟩
 replace he : Ext w w20 := f1.toExt he (fun y hy e => by have := (LG.out _ e).1; omega)
 replace B1 := f1.blk B1 (fun e => by have := (LG.out _ e).1; omega); replace B2 := f1.blk B2 (fun e => by have := (LG.out _ e).1; omega); replace Q0 := f1.blk Q0 (fun e => by have := (LG.out _ e).1; omega); replace Q1 := f1.blk Q1 NG.out
 replace RM := hU (RM.out.keep (f1.keep (fun y _ hy e => by have := (LG.out _ e).1; omega)))
 replace WM := hU (WM.out.keep (f1.keep (fun y _ hy e => by have := (LG.out _ e).1; omega)))
 have WG2 : WVal N10 Wr ug w20 := WG.out.frm f1 (fun y hy e => AW.out y e hy)
 replace WG := hU WG2
 have MK := hU mk
 clear f1 WG2 mk HG R1
 go_wp2_with fail
 refine (bwMark (k := 1 + BrkN B) WG.out wl (by omega)).mono ?_
 rintro e w21 ⟨rfl, mk, f1⟩
 replace he : Ext w w21 := f1.toExt he (fun y hy e => by have := (LW.out _ e).1; omega)
 replace B1 := f1.blk B1 (fun e => by have := (LW.out _ e).1; omega); replace B2 := f1.blk B2 (fun e => by have := (LW.out _ e).1; omega); replace Q0 := f1.blk Q0 (fun e => by have := (LW.out _ e).1; omega); replace Q1 := f1.blk Q1 NW.out
 replace RM := hU (RM.out.keep (f1.keep (fun y _ hy e => by have := (LW.out _ e).1; omega)))
 replace WM := hU (WM.out.keep (f1.keep (fun y _ hy e => by have := (LW.out _ e).1; omega)))
 replace MK := hU (MK.out.frm f1 (fun y hy e => AW.out y hy e))
 have MW := hU mk
 clear f1 mk WG
 obtain ⟨m1, hm1⟩ : ∃ m1, m1 = 1 + BrkN B := ⟨_, rfl⟩
 obtain ⟨m2, hm2⟩ : ∃ m2, m2 = m1 + Wr.length * 3 := ⟨_, rfl⟩
 have HB : Hid (∀ (u : World), BMkL u B G 1 → Calls Tryz.prog 29 #[.agg G.toArray, .int .i64 1] u fun e w' => e = .returned (.int .i64 (m1 : Int)) ∧ Ext u w') := hU (fun u h => by rw [hm1]; exact bvHeld (k := 1) h BLB.out (by decide))
 have HWr : Hid (∀ (u : World), FMk WriteD.cells 3 WriteD.mkL u ug m1 Wr.length → Calls Tryz.prog 30 #[ug, .int .i64 (m1 : Int)] u fun e w' => e = .returned (.int .i64 (m2 : Int)) ∧ Ext u w') := hU (fun u h => by rw [hm2]; exact bwHeld (k := m1) h wl (by omega))
 rw [← hm1] at MW
 rw [← hm1]
 rw [← hm2]
 have q10 : (0 : Int) ≤ (m1 : Int) := by omega
 have q11 : (0 : Int) ≤ (m2 : Int) := by omega
 have mne : ((m2 : Int) != (m2 : Int)) = false := by simp
 clear hm1 hm2
 have R1 := hU (Blk.range Q1)
 go_wp2_with (refine wpList_load_mid rfl 59 _ rfl q1 0 rfl G _ R1.out Tryz.underlying59 rfl (by rw [HG13.out]; kernel_rfl) ?_)
 refine (HB.out _ MK.out).mono ?_
 rintro e w22 ⟨rfl, h1⟩
 replace he := he.next h1; replace B1 := B1.ext h1; replace B2 := B2.ext h1; replace Q0 := Q0.ext h1; replace RM := hU (RM.out.ext h1); replace WM := hU (WM.out.ext h1); replace Q1 := Q1.ext h1; replace MK := hU (MK.out.ext h1); replace MW := hU (MW.out.ext h1)
 clear h1 R1
 go_wp2_with fail
 refine (HWr.out _ MW.out).mono ?_
 rintro e w23 ⟨rfl, h1⟩
 replace he := he.next h1; replace B1 := B1.ext h1; replace B2 := B2.ext h1; replace Q0 := Q0.ext h1; replace RM := hU (RM.out.ext h1); replace WM := hU (WM.out.ext h1); replace Q1 := Q1.ext h1; replace MK := hU (MK.out.ext h1); replace MW := hU (MW.out.ext h1)
 clear h1
 go_upto_region 31 with fail
 go_cut [16, 17, 18] (fun vq vu vc wx => ∃ (q : Nat) (M : List Value) (u : Value), vq = .pointer (some ⟨q, 0, none⟩) ∧ u = vu ∧ vc = .int .i64 (cc : Int) ∧ Blk wx q 59 M.toArray ∧ BVal w23.heap.size B M wx ∧ WVal w23.heap.size Wr u wx ∧ w23.heap.size ≤ q ∧ Ext w23 wx)
 case first =>
  refine wp_region_held_drew (S := fun w' => Ext w23 w') (by kernel_rfl) (Below.refl _ _).drew (fun hH => ?_)
  generalize w23.drew = w0 at *
  refine wpAnyH_take (i := 0) (oi := _) (v := _) rfl (by kernel_rfl) (by kernel_rfl) (by kernel_rfl) (fun _ _ _ h => h) (yieldsIf_load_mid (by rfl) 43 _ rfl g1 0 rfl cs _ (fun w' h => Blk.range (B1.ext h)) Tryz.underlying43 rfl (by rw [HL13.out]; kernel_rfl)) hH ?_
  (try simp only [fillA, Act.put, pz1, pz2, pz3])
  refine wpAnyH_take (i := 2) (oi := _) (v := _) rfl (by kernel_rfl) (by kernel_rfl) (by kernel_rfl) (fun _ _ _ h => h) (yieldsIf_load_mid (by rfl) 74 _ rfl g2 0 rfl [.string r.reader, .string r.topic, .int .i64 r.index] _ (fun w' h => Blk.range (B2.ext h)) Tryz.underlying74 rfl (by kernel_rfl)) hH ?_
  (try simp only [fillA, Act.put, pz1, pz2, pz3])
  refine twoH 1 9 (oi := _) (oj := _) (some 111) (some 16) (by kernel_rfl) rfl rfl rfl rfl rfl rfl (fun K' hK => ?_) (fun K' hK => ?_)
  · skip
    refine ⟨?_⟩
    rw [if_pos (by rfl)]
    go_simp
    refine (TOB.out _ (he.next hH)).mono ?_
    rintro e wA ⟨Y, rfl, hy, h1⟩
    have HY := hU hy
    clear hy
    refine hK.out _ _ ⟨_, rfl⟩ (hH.next h1) (fun hH2 => ?_)
    clear hK K' hH h1
    have hH := hH2
    clear hH2
    (try simp only [fillA, Act.put, pz1, pz2, pz3])
    refine twoH 3 9 (oi := _) (oj := _) (some 113) (some 16) (by kernel_rfl) rfl rfl rfl rfl rfl rfl (fun K' hK => ?_) (fun K' hK => ?_)
    · skip
      refine ⟨?_⟩
      rw [if_pos (by rfl)]
      go_simp
      refine (toReceipt_any r _).mono ?_
      rintro e wB ⟨rfl, h1⟩
      replace HY := hU (HY.out.ext h1)
      refine hK.out _ _ ⟨_, rfl⟩ (hH.next h1) (fun hH2 => ?_)
      clear hK K' hH h1
      have hH := hH2
      clear hH2
      (try simp only [fillA, Act.put, pz1, pz2, pz3])
      refine twoH 4 9 (oi := _) (oj := _) (some 114) (some 16) (by kernel_rfl) rfl rfl rfl rfl rfl rfl (fun K' hK => ?_) (fun K' hK => ?_)
      · skip
        refine ⟨?_⟩
        rw [if_pos (by rfl)]
        go_simp
        refine (IM.out _ _ _ HY.out.rd).mono ?_
        rintro e wC ⟨M, u, rfl, hm, hu, h1⟩
        replace HY := hU (HY.out.ext h1)
        have HM := hU (hm.base hH.size); have HU := hU (hu.base hH.size)
        clear hm hu
        refine hK.out _ _ ⟨_, rfl⟩ (hH.next h1) (fun hH2 => ?_)
        clear hK K' hH h1
        have hH := hH2
        clear hH2
        (try simp only [fillA, Act.put, pz1, pz2, pz3])
        refine takeQ 5 (.tuple #[.agg M.toArray, u, .int .i64 (cc : Int)]) (some 109) rfl rfl (by kernel_rfl) (Or.inl ⟨by rfl, ?yg31aaa1⟩) hH ?rg31aaa1
        case yg31aaa1 => intro w' hS'; go_simp; try with_reducible rfl
        (try simp only [Act.put, pz1, pz2, pz3])
        refine takeQ 6 (.agg M.toArray) (some 115) rfl rfl (by kernel_rfl) (Or.inl ⟨by rfl, ?yg31aaa2⟩) hH ?rg31aaa2
        case yg31aaa2 => intro w' hS'; go_simp; try with_reducible rfl
        (try simp only [Act.put, pz1, pz2, pz3])
        refine takeQ 7 (u) (some 116) rfl rfl (by kernel_rfl) (Or.inl ⟨by rfl, ?yg31aaa3⟩) hH ?rg31aaa3
        case yg31aaa3 => intro w' hS'; go_simp; try with_reducible rfl
        (try simp only [Act.put, pz1, pz2, pz3])
        refine takeQ 8 (.int .i64 (cc : Int)) (some 117) rfl rfl (by kernel_rfl) (Or.inl ⟨by rfl, ?yg31aaa4⟩) hH ?rg31aaa4
        case yg31aaa4 => intro w' hS'; go_simp; try with_reducible rfl
        (try simp only [Act.put, pz1, pz2, pz3])
        refine oneH 9 (oi := _) (some 16) (by kernel_rfl) rfl rfl rfl (fun K' hK => ?_)
        have h1 := Ext.new (Below.refl wC.heap.size wC) (.cells #[.int .i64 0, .slice none 0 0, .slice none 0 0, .slice none 0 0, .int .i64 0, .slice none 0 0, .int .i64 0, .slice none 0 0, .int .i64 0, .int .i64 0, .string ⟨#[]⟩, .int .i64 0, .string ⟨#[]⟩] 59)
        obtain ⟨q, hq⟩ : ∃ q, q = wC.heap.size := ⟨_, rfl⟩
        have bq := Blk.new wC 59 #[.int .i64 0, .slice none 0 0, .slice none 0 0, .slice none 0 0, .int .i64 0, .slice none 0 0, .int .i64 0, .slice none 0 0, .int .i64 0, .int .i64 0, .string ⟨#[]⟩, .int .i64 0, .string ⟨#[]⟩]
        rw [← hq] at bq
        have QB := hU (show w23.heap.size ≤ q by have := hH.size; omega)
        obtain ⟨wF, hu_, h1, bq⟩ : ∃ u, u = wC.alloc (.cells #[.int .i64 0, .slice none 0 0, .slice none 0 0, .slice none 0 0, .int .i64 0, .slice none 0 0, .int .i64 0, .slice none 0 0, .int .i64 0, .int .i64 0, .string ⟨#[]⟩, .int .i64 0, .string ⟨#[]⟩] 59) ∧ Ext wC u ∧ Blk u q 59 #[.int .i64 0, .slice none 0 0, .slice none 0 0, .slice none 0 0, .int .i64 0, .slice none 0 0, .int .i64 0, .slice none 0 0, .int .i64 0, .int .i64 0, .string ⟨#[]⟩, .int .i64 0, .string ⟨#[]⟩] := ⟨_, rfl, h1, bq⟩
        have HUU := hU hu_; have HQQ := hU hq
        clear hu_ hq
        refine ⟨?_⟩
        rw [if_pos (by rfl)]
        go_simp
        rw [← HUU.out, ← HQQ.out]
        replace HY := hU (HY.out.ext h1)
        replace HM := hU (HM.out.ext h1)
        replace HU := hU (HU.out.ext h1)
        have BQ := hU bq
        clear bq
        refine hK.out _ _ ⟨_, rfl⟩ (hH.next h1) (fun hH2 => ?_)
        clear hK K' hH h1 HUU HQQ
        have hH := hH2
        clear hH2
        (try simp only [fillA, Act.put, pz1, pz2, pz3])
        have Tq := hU (show World.there wF q 0 M.length by rw [HM.out.len]; exact BQ.out.there 0 13 (by simp))
        have bz := put_whole BQ.out M (by rw [HM.out.len]; rfl)
        have mz := HM.out.put BQ.out M 0
        have uz := HU.out.put BQ.out M 0
        refine oneH 10 (oi := _) none (by kernel_rfl) rfl rfl rfl (fun K' hK => ?_)
        refine ⟨?_⟩
        rw [if_pos (by rfl)]
        refine wp_store_lst 59 _ _ rfl rfl q 0 M rfl rfl Tq.out (by rw [HM.out.len]; kernel_rfl) HM.out.one ?_
        refine hK.out _ _ ⟨undef, rfl⟩ (ext_setCells (W := w23) QB.out M 0 _ hH) (fun hH2 => ?_)
        clear hK K' hH Tq
        have hH := hH2
        clear hH2
        (try simp only [fillA, Act.put, pz1, pz2, pz3])
        refine takeQ 11 (u) (some 17) rfl rfl (by kernel_rfl) (Or.inl ⟨by rfl, ?yg31aaa5⟩) hH ?rg31aaa5
        case yg31aaa5 => intro w' hS'; go_simp; try with_reducible rfl
        (try simp only [Act.put, pz1, pz2, pz3])
        refine takeQ 12 (.int .i64 (cc : Int)) (some 18) rfl rfl (by kernel_rfl) (Or.inl ⟨by rfl, ?yg31aaa6⟩) hH ?rg31aaa6
        case yg31aaa6 => intro w' hS'; go_simp; try with_reducible rfl
        (try simp only [Act.put, pz1, pz2, pz3])
        refine wpAnyH_done (by kernel_rfl) ?_ _
        (try go_wp2_with fail)
        go_meet
        case rel => exact ⟨q, M, u, rfl, rfl, rfl, bz, mz, uz, QB.out, hH⟩
      · skip
        have h1 := Ext.new (Below.refl wB.heap.size wB) (.cells #[.int .i64 0, .slice none 0 0, .slice none 0 0, .slice none 0 0, .int .i64 0, .slice none 0 0, .int .i64 0, .slice none 0 0, .int .i64 0, .int .i64 0, .string ⟨#[]⟩, .int .i64 0, .string ⟨#[]⟩] 59)
        obtain ⟨q, hq⟩ : ∃ q, q = wB.heap.size := ⟨_, rfl⟩
        have bq := Blk.new wB 59 #[.int .i64 0, .slice none 0 0, .slice none 0 0, .slice none 0 0, .int .i64 0, .slice none 0 0, .int .i64 0, .slice none 0 0, .int .i64 0, .int .i64 0, .string ⟨#[]⟩, .int .i64 0, .string ⟨#[]⟩]
        rw [← hq] at bq
        have QB := hU (show w23.heap.size ≤ q by have := hH.size; omega)
        obtain ⟨wQ, hu_, h1, bq⟩ : ∃ u, u = wB.alloc (.cells #[.int .i64 0, .slice none 0 0, .slice none 0 0, .slice none 0 0, .int .i64 0, .slice none 0 0, .int .i64 0, .slice none 0 0, .int .i64 0, .int .i64 0, .string ⟨#[]⟩, .int .i64 0, .string ⟨#[]⟩] 59) ∧ Ext wB u ∧ Blk u q 59 #[.int .i64 0, .slice none 0 0, .slice none 0 0, .slice none 0 0, .int .i64 0, .slice none 0 0, .int .i64 0, .slice none 0 0, .int .i64 0, .int .i64 0, .string ⟨#[]⟩, .int .i64 0, .string ⟨#[]⟩] := ⟨_, rfl, h1, bq⟩
        have HUU := hU hu_; have HQQ := hU hq
        clear hu_ hq
        refine ⟨?_⟩
        rw [if_pos (by rfl)]
        go_simp
        rw [← HUU.out, ← HQQ.out]
        replace HY := hU (HY.out.ext h1)
        have BQ := hU bq
        clear bq
        refine hK.out _ _ ⟨_, rfl⟩ (hH.next h1) (fun hH2 => ?_)
        clear hK K' hH h1 HUU HQQ
        have hH := hH2
        clear hH2
        (try simp only [fillA, Act.put, pz1, pz2, pz3])
        refine oneH 4 (oi := _) (some 114) (by kernel_rfl) rfl rfl rfl (fun K' hK => ?_)
        refine ⟨?_⟩
        rw [if_pos (by rfl)]
        go_simp
        refine (IM.out _ _ _ HY.out.rd).mono ?_
        rintro e wC ⟨M, u, rfl, hm, hu, h1⟩
        replace HY := hU (HY.out.ext h1)
        replace BQ := hU (BQ.out.ext h1)
        have HM := hU (hm.base hH.size); have HU := hU (hu.base hH.size)
        clear hm hu
        refine hK.out _ _ ⟨_, rfl⟩ (hH.next h1) (fun hH2 => ?_)
        clear hK K' hH h1
        have hH := hH2
        clear hH2
        (try simp only [fillA, Act.put, pz1, pz2, pz3])
        refine takeQ 5 (.tuple #[.agg M.toArray, u, .int .i64 (cc : Int)]) (some 109) rfl rfl (by kernel_rfl) (Or.inl ⟨by rfl, ?yg31aabc1⟩) hH ?rg31aabc1
        case yg31aabc1 => intro w' hS'; go_simp; try with_reducible rfl
        (try simp only [Act.put, pz1, pz2, pz3])
        refine takeQ 6 (.agg M.toArray) (some 115) rfl rfl (by kernel_rfl) (Or.inl ⟨by rfl, ?yg31aabc2⟩) hH ?rg31aabc2
        case yg31aabc2 => intro w' hS'; go_simp; try with_reducible rfl
        (try simp only [Act.put, pz1, pz2, pz3])
        refine takeQ 7 (u) (some 116) rfl rfl (by kernel_rfl) (Or.inl ⟨by rfl, ?yg31aabc3⟩) hH ?rg31aabc3
        case yg31aabc3 => intro w' hS'; go_simp; try with_reducible rfl
        (try simp only [Act.put, pz1, pz2, pz3])
        refine takeQ 8 (.int .i64 (cc : Int)) (some 117) rfl rfl (by kernel_rfl) (Or.inl ⟨by rfl, ?yg31aabc4⟩) hH ?rg31aabc4
        case yg31aabc4 => intro w' hS'; go_simp; try with_reducible rfl
        (try simp only [Act.put, pz1, pz2, pz3])
        have Tq := hU (show World.there wC q 0 M.length by rw [HM.out.len]; exact BQ.out.there 0 13 (by simp))
        have bz := put_whole BQ.out M (by rw [HM.out.len]; rfl)
        have mz := HM.out.put BQ.out M 0
        have uz := HU.out.put BQ.out M 0
        refine oneH 10 (oi := _) none (by kernel_rfl) rfl rfl rfl (fun K' hK => ?_)
        refine ⟨?_⟩
        rw [if_pos (by rfl)]
        refine wp_store_lst 59 _ _ rfl rfl q 0 M rfl rfl Tq.out (by rw [HM.out.len]; kernel_rfl) HM.out.one ?_
        refine hK.out _ _ ⟨undef, rfl⟩ (ext_setCells (W := w23) QB.out M 0 _ hH) (fun hH2 => ?_)
        clear hK K' hH Tq
        have hH := hH2
        clear hH2
        (try simp only [fillA, Act.put, pz1, pz2, pz3])
        refine takeQ 11 (u) (some 17) rfl rfl (by kernel_rfl) (Or.inl ⟨by rfl, ?yg31aabc5⟩) hH ?rg31aabc5
        case yg31aabc5 => intro w' hS'; go_simp; try with_reducible rfl
        (try simp only [Act.put, pz1, pz2, pz3])
        refine takeQ 12 (.int .i64 (cc : Int)) (some 18) rfl rfl (by kernel_rfl) (Or.inl ⟨by rfl, ?yg31aabc6⟩) hH ?rg31aabc6
        case yg31aabc6 => intro w' hS'; go_simp; try with_reducible rfl
        (try simp only [Act.put, pz1, pz2, pz3])
        refine wpAnyH_done (by kernel_rfl) ?_ _
        (try go_wp2_with fail)
        go_meet
        case rel => exact ⟨q, M, u, rfl, rfl, rfl, bz, mz, uz, QB.out, hH⟩
    · skip
      have h1 := Ext.new (Below.refl wA.heap.size wA) (.cells #[.int .i64 0, .slice none 0 0, .slice none 0 0, .slice none 0 0, .int .i64 0, .slice none 0 0, .int .i64 0, .slice none 0 0, .int .i64 0, .int .i64 0, .string ⟨#[]⟩, .int .i64 0, .string ⟨#[]⟩] 59)
      obtain ⟨q, hq⟩ : ∃ q, q = wA.heap.size := ⟨_, rfl⟩
      have bq := Blk.new wA 59 #[.int .i64 0, .slice none 0 0, .slice none 0 0, .slice none 0 0, .int .i64 0, .slice none 0 0, .int .i64 0, .slice none 0 0, .int .i64 0, .int .i64 0, .string ⟨#[]⟩, .int .i64 0, .string ⟨#[]⟩]
      rw [← hq] at bq
      have QB := hU (show w23.heap.size ≤ q by have := hH.size; omega)
      obtain ⟨wQ, hu_, h1, bq⟩ : ∃ u, u = wA.alloc (.cells #[.int .i64 0, .slice none 0 0, .slice none 0 0, .slice none 0 0, .int .i64 0, .slice none 0 0, .int .i64 0, .slice none 0 0, .int .i64 0, .int .i64 0, .string ⟨#[]⟩, .int .i64 0, .string ⟨#[]⟩] 59) ∧ Ext wA u ∧ Blk u q 59 #[.int .i64 0, .slice none 0 0, .slice none 0 0, .slice none 0 0, .int .i64 0, .slice none 0 0, .int .i64 0, .slice none 0 0, .int .i64 0, .int .i64 0, .string ⟨#[]⟩, .int .i64 0, .string ⟨#[]⟩] := ⟨_, rfl, h1, bq⟩
      have HUU := hU hu_; have HQQ := hU hq
      clear hu_ hq
      refine ⟨?_⟩
      rw [if_pos (by rfl)]
      go_simp
      rw [← HUU.out, ← HQQ.out]
      replace HY := hU (HY.out.ext h1)
      have BQ := hU bq
      clear bq
      refine hK.out _ _ ⟨_, rfl⟩ (hH.next h1) (fun hH2 => ?_)
      clear hK K' hH h1 HUU HQQ
      have hH := hH2
      clear hH2
      (try simp only [fillA, Act.put, pz1, pz2, pz3])
      refine oneH 3 (oi := _) (some 113) (by kernel_rfl) rfl rfl rfl (fun K' hK => ?_)
      refine ⟨?_⟩
      rw [if_pos (by rfl)]
      go_simp
      refine (toReceipt_any r _).mono ?_
      rintro e wB ⟨rfl, h1⟩
      replace HY := hU (HY.out.ext h1)
      replace BQ := hU (BQ.out.ext h1)
      refine hK.out _ _ ⟨_, rfl⟩ (hH.next h1) (fun hH2 => ?_)
      clear hK K' hH h1
      have hH := hH2
      clear hH2
      (try simp only [fillA, Act.put, pz1, pz2, pz3])
      refine oneH 4 (oi := _) (some 114) (by kernel_rfl) rfl rfl rfl (fun K' hK => ?_)
      refine ⟨?_⟩
      rw [if_pos (by rfl)]
      go_simp
      refine (IM.out _ _ _ HY.out.rd).mono ?_
      rintro e wC ⟨M, u, rfl, hm, hu, h1⟩
      replace HY := hU (HY.out.ext h1)
      replace BQ := hU (BQ.out.ext h1)
      have HM := hU (hm.base hH.size); have HU := hU (hu.base hH.size)
      clear hm hu
      refine hK.out _ _ ⟨_, rfl⟩ (hH.next h1) (fun hH2 => ?_)
      clear hK K' hH h1
      have hH := hH2
      clear hH2
      (try simp only [fillA, Act.put, pz1, pz2, pz3])
      refine takeQ 5 (.tuple #[.agg M.toArray, u, .int .i64 (cc : Int)]) (some 109) rfl rfl (by kernel_rfl) (Or.inl ⟨by rfl, ?yg31abcc1⟩) hH ?rg31abcc1
      case yg31abcc1 => intro w' hS'; go_simp; try with_reducible rfl
      (try simp only [Act.put, pz1, pz2, pz3])
      refine takeQ 6 (.agg M.toArray) (some 115) rfl rfl (by kernel_rfl) (Or.inl ⟨by rfl, ?yg31abcc2⟩) hH ?rg31abcc2
      case yg31abcc2 => intro w' hS'; go_simp; try with_reducible rfl
      (try simp only [Act.put, pz1, pz2, pz3])
      refine takeQ 7 (u) (some 116) rfl rfl (by kernel_rfl) (Or.inl ⟨by rfl, ?yg31abcc3⟩) hH ?rg31abcc3
      case yg31abcc3 => intro w' hS'; go_simp; try with_reducible rfl
      (try simp only [Act.put, pz1, pz2, pz3])
      refine takeQ 8 (.int .i64 (cc : Int)) (some 117) rfl rfl (by kernel_rfl) (Or.inl ⟨by rfl, ?yg31abcc4⟩) hH ?rg31abcc4
      case yg31abcc4 => intro w' hS'; go_simp; try with_reducible rfl
      (try simp only [Act.put, pz1, pz2, pz3])
      have Tq := hU (show World.there wC q 0 M.length by rw [HM.out.len]; exact BQ.out.there 0 13 (by simp))
      have bz := put_whole BQ.out M (by rw [HM.out.len]; rfl)
      have mz := HM.out.put BQ.out M 0
      have uz := HU.out.put BQ.out M 0
      refine oneH 10 (oi := _) none (by kernel_rfl) rfl rfl rfl (fun K' hK => ?_)
      refine ⟨?_⟩
      rw [if_pos (by rfl)]
      refine wp_store_lst 59 _ _ rfl rfl q 0 M rfl rfl Tq.out (by rw [HM.out.len]; kernel_rfl) HM.out.one ?_
      refine hK.out _ _ ⟨undef, rfl⟩ (ext_setCells (W := w23) QB.out M 0 _ hH) (fun hH2 => ?_)
      clear hK K' hH Tq
      have hH := hH2
      clear hH2
      (try simp only [fillA, Act.put, pz1, pz2, pz3])
      refine takeQ 11 (u) (some 17) rfl rfl (by kernel_rfl) (Or.inl ⟨by rfl, ?yg31abcc5⟩) hH ?rg31abcc5
      case yg31abcc5 => intro w' hS'; go_simp; try with_reducible rfl
      (try simp only [Act.put, pz1, pz2, pz3])
      refine takeQ 12 (.int .i64 (cc : Int)) (some 18) rfl rfl (by kernel_rfl) (Or.inl ⟨by rfl, ?yg31abcc6⟩) hH ?rg31abcc6
      case yg31abcc6 => intro w' hS'; go_simp; try with_reducible rfl
      (try simp only [Act.put, pz1, pz2, pz3])
      refine wpAnyH_done (by kernel_rfl) ?_ _
      (try go_wp2_with fail)
      go_meet
      case rel => exact ⟨q, M, u, rfl, rfl, rfl, bz, mz, uz, QB.out, hH⟩
  · skip
    have h1 := Ext.new (Below.refl w0.heap.size w0) (.cells #[.int .i64 0, .slice none 0 0, .slice none 0 0, .slice none 0 0, .int .i64 0, .slice none 0 0, .int .i64 0, .slice none 0 0, .int .i64 0, .int .i64 0, .string ⟨#[]⟩, .int .i64 0, .string ⟨#[]⟩] 59)
    obtain ⟨q, hq⟩ : ∃ q, q = w0.heap.size := ⟨_, rfl⟩
    have bq := Blk.new w0 59 #[.int .i64 0, .slice none 0 0, .slice none 0 0, .slice none 0 0, .int .i64 0, .slice none 0 0, .int .i64 0, .slice none 0 0, .int .i64 0, .int .i64 0, .string ⟨#[]⟩, .int .i64 0, .string ⟨#[]⟩]
    rw [← hq] at bq
    have QB := hU (show w23.heap.size ≤ q by have := hH.size; omega)
    obtain ⟨wQ, hu_, h1, bq⟩ : ∃ u, u = w0.alloc (.cells #[.int .i64 0, .slice none 0 0, .slice none 0 0, .slice none 0 0, .int .i64 0, .slice none 0 0, .int .i64 0, .slice none 0 0, .int .i64 0, .int .i64 0, .string ⟨#[]⟩, .int .i64 0, .string ⟨#[]⟩] 59) ∧ Ext w0 u ∧ Blk u q 59 #[.int .i64 0, .slice none 0 0, .slice none 0 0, .slice none 0 0, .int .i64 0, .slice none 0 0, .int .i64 0, .slice none 0 0, .int .i64 0, .int .i64 0, .string ⟨#[]⟩, .int .i64 0, .string ⟨#[]⟩] := ⟨_, rfl, h1, bq⟩
    have HUU := hU hu_; have HQQ := hU hq
    clear hu_ hq
    refine ⟨?_⟩
    rw [if_pos (by rfl)]
    go_simp
    rw [← HUU.out, ← HQQ.out]
    have BQ := hU bq
    clear bq
    refine hK.out _ _ ⟨_, rfl⟩ (hH.next h1) (fun hH2 => ?_)
    clear hK K' hH h1 HUU HQQ
    have hH := hH2
    clear hH2
    (try simp only [fillA, Act.put, pz1, pz2, pz3])
    refine oneH 1 (oi := _) (some 111) (by kernel_rfl) rfl rfl rfl (fun K' hK => ?_)
    refine ⟨?_⟩
    rw [if_pos (by rfl)]
    go_simp
    refine (TOB.out _ (he.next hH)).mono ?_
    rintro e wA ⟨Y, rfl, hy, h1⟩
    replace BQ := hU (BQ.out.ext h1)
    have HY := hU hy
    clear hy
    refine hK.out _ _ ⟨_, rfl⟩ (hH.next h1) (fun hH2 => ?_)
    clear hK K' hH h1
    have hH := hH2
    clear hH2
    (try simp only [fillA, Act.put, pz1, pz2, pz3])
    refine oneH 3 (oi := _) (some 113) (by kernel_rfl) rfl rfl rfl (fun K' hK => ?_)
    refine ⟨?_⟩
    rw [if_pos (by rfl)]
    go_simp
    refine (toReceipt_any r _).mono ?_
    rintro e wB ⟨rfl, h1⟩
    replace BQ := hU (BQ.out.ext h1)
    replace HY := hU (HY.out.ext h1)
    refine hK.out _ _ ⟨_, rfl⟩ (hH.next h1) (fun hH2 => ?_)
    clear hK K' hH h1
    have hH := hH2
    clear hH2
    (try simp only [fillA, Act.put, pz1, pz2, pz3])
    refine oneH 4 (oi := _) (some 114) (by kernel_rfl) rfl rfl rfl (fun K' hK => ?_)
    refine ⟨?_⟩
    rw [if_pos (by rfl)]
    go_simp
    refine (IM.out _ _ _ HY.out.rd).mono ?_
    rintro e wC ⟨M, u, rfl, hm, hu, h1⟩
    replace BQ := hU (BQ.out.ext h1)
    replace HY := hU (HY.out.ext h1)
    have HM := hU (hm.base hH.size); have HU := hU (hu.base hH.size)
    clear hm hu
    refine hK.out _ _ ⟨_, rfl⟩ (hH.next h1) (fun hH2 => ?_)
    clear hK K' hH h1
    have hH := hH2
    clear hH2
    (try simp only [fillA, Act.put, pz1, pz2, pz3])
    refine takeQ 5 (.tuple #[.agg M.toArray, u, .int .i64 (cc : Int)]) (some 109) rfl rfl (by kernel_rfl) (Or.inl ⟨by rfl, ?yg31bccc1⟩) hH ?rg31bccc1
    case yg31bccc1 => intro w' hS'; go_simp; try with_reducible rfl
    (try simp only [Act.put, pz1, pz2, pz3])
    refine takeQ 6 (.agg M.toArray) (some 115) rfl rfl (by kernel_rfl) (Or.inl ⟨by rfl, ?yg31bccc2⟩) hH ?rg31bccc2
    case yg31bccc2 => intro w' hS'; go_simp; try with_reducible rfl
    (try simp only [Act.put, pz1, pz2, pz3])
    refine takeQ 7 (u) (some 116) rfl rfl (by kernel_rfl) (Or.inl ⟨by rfl, ?yg31bccc3⟩) hH ?rg31bccc3
    case yg31bccc3 => intro w' hS'; go_simp; try with_reducible rfl
    (try simp only [Act.put, pz1, pz2, pz3])
    refine takeQ 8 (.int .i64 (cc : Int)) (some 117) rfl rfl (by kernel_rfl) (Or.inl ⟨by rfl, ?yg31bccc4⟩) hH ?rg31bccc4
    case yg31bccc4 => intro w' hS'; go_simp; try with_reducible rfl
    (try simp only [Act.put, pz1, pz2, pz3])
    have Tq := hU (show World.there wC q 0 M.length by rw [HM.out.len]; exact BQ.out.there 0 13 (by simp))
    have bz := put_whole BQ.out M (by rw [HM.out.len]; rfl)
    have mz := HM.out.put BQ.out M 0
    have uz := HU.out.put BQ.out M 0
    refine oneH 10 (oi := _) none (by kernel_rfl) rfl rfl rfl (fun K' hK => ?_)
    refine ⟨?_⟩
    rw [if_pos (by rfl)]
    refine wp_store_lst 59 _ _ rfl rfl q 0 M rfl rfl Tq.out (by rw [HM.out.len]; kernel_rfl) HM.out.one ?_
    refine hK.out _ _ ⟨undef, rfl⟩ (ext_setCells (W := w23) QB.out M 0 _ hH) (fun hH2 => ?_)
    clear hK K' hH Tq
    have hH := hH2
    clear hH2
    (try simp only [fillA, Act.put, pz1, pz2, pz3])
    refine takeQ 11 (u) (some 17) rfl rfl (by kernel_rfl) (Or.inl ⟨by rfl, ?yg31bccc5⟩) hH ?rg31bccc5
    case yg31bccc5 => intro w' hS'; go_simp; try with_reducible rfl
    (try simp only [Act.put, pz1, pz2, pz3])
    refine takeQ 12 (.int .i64 (cc : Int)) (some 18) rfl rfl (by kernel_rfl) (Or.inl ⟨by rfl, ?yg31bccc6⟩) hH ?rg31bccc6
    case yg31bccc6 => intro w' hS'; go_simp; try with_reducible rfl
    (try simp only [Act.put, pz1, pz2, pz3])
    refine wpAnyH_done (by kernel_rfl) ?_ _
    (try go_wp2_with fail)
    go_meet
    case rel => exact ⟨q, M, u, rfl, rfl, rfl, bz, mz, uz, QB.out, hH⟩
 case rest =>
 obtain ⟨q2, Hh, uh, rfl, rfl, rfl, bq, hm, hu, hq, h1⟩ := hcut
 obtain ⟨w24, rfl⟩ := blk_w bq
 replace he := he.next h1; replace B1 := B1.ext h1; replace B2 := B2.ext h1; replace Q0 := Q0.ext h1; replace RM := hU (RM.out.ext h1); replace WM := hU (WM.out.ext h1); replace Q1 := Q1.ext h1; replace MK := hU (MK.out.ext h1); replace MW := hU (MW.out.ext h1)
 have Q2 := bq
 have HH := hU hm; have WH := hU hu
 have HH13 := hU hm.len
 clear bq hm hu h1 hq IM TOB
 have R1 := hU (Blk.range Q2); have R0 := hU (Blk.range Q0)
 go_wp2_with (first | (refine wpList_load_mid rfl 59 _ rfl q2 0 rfl Hh _ R1.out Tryz.underlying59 rfl (by rw [HH13.out]; kernel_rfl) ?_) | (refine wpList_load_mid rfl 59 _ rfl q0 0 rfl M _ R0.out Tryz.underlying59 rfl (by rw [HM13.out]; kernel_rfl) ?_))
 refine (bvEq HH.out.rd RM.out BL.out).mono ?_
 rintro e w25 ⟨rfl, h1⟩
 replace he := he.next h1; replace B1 := B1.ext h1; replace B2 := B2.ext h1; replace Q0 := Q0.ext h1; replace RM := hU (RM.out.ext h1); replace WM := hU (WM.out.ext h1); replace Q1 := Q1.ext h1; replace MK := hU (MK.out.ext h1); replace MW := hU (MW.out.ext h1); replace Q2 := Q2.ext h1; replace HH := hU (HH.out.ext h1); replace WH := hU (WH.out.ext h1)
 clear h1 R0 R1
 go_wp2_with fail
 refine (bwEq WH.out.rd WM.out wl).mono ?_
 rintro e w26 ⟨rfl, h1⟩
 replace he := he.next h1; replace B1 := B1.ext h1; replace B2 := B2.ext h1; replace Q0 := Q0.ext h1; replace RM := hU (RM.out.ext h1); replace WM := hU (WM.out.ext h1); replace Q1 := Q1.ext h1; replace MK := hU (MK.out.ext h1); replace MW := hU (MW.out.ext h1); replace Q2 := Q2.ext h1; replace HH := hU (HH.out.ext h1); replace WH := hU (WH.out.ext h1)
 clear h1
 have R1 := hU (Blk.range Q1)
 go_wp2_with (refine wpList_load_mid rfl 59 _ rfl q1 0 rfl G _ R1.out Tryz.underlying59 rfl (by rw [HG13.out]; kernel_rfl) ?_)
 refine (HB.out _ MK.out).mono ?_
 rintro e w27 ⟨rfl, h1⟩
 replace he := he.next h1; replace B1 := B1.ext h1; replace B2 := B2.ext h1; replace Q0 := Q0.ext h1; replace Q1 := Q1.ext h1; replace MK := hU (MK.out.ext h1); replace MW := hU (MW.out.ext h1)
 clear h1 R1
 go_wp2_with fail
 refine (HWr.out _ MW.out).mono ?_
 rintro e w28 ⟨rfl, h1⟩
 replace he := he.next h1; replace B1 := B1.ext h1; replace B2 := B2.ext h1; replace Q0 := Q0.ext h1; replace Q1 := Q1.ext h1; replace MK := hU (MK.out.ext h1); replace MW := hU (MW.out.ext h1)
 clear h1
 go_wp2_with fail
 go_ret
 exact ⟨rfl, he⟩
end Go.Proofs.YtlgdghpnfclgpaaGreat
