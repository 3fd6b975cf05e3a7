/-
  Reopen's law: walk.
-/
import Derived.Test.YtlgdghpnfclgpaaGreatArgs
import Derived.Test.YtlgdghpnfclgpaaGreatMendFx
import Derived.Test.YtlgdghpnfclgpaaGreatConvWrite
import Derived.Test.YtlgdghpnfclgpaaGreatBroker0
import Derived.Test.YtlgdghpnfclgpaaGreatName
namespace Go.Proofs.YtlgdghpnfclgpaaGreat
set_option maxRecDepth 100000
set_option linter.unusedSimpArgs false
open Go.RowKit Go.WideShapes Go.ChangeAt
set_option linter.unusedVariables false
theorem re_parts {n : Int} {l : List ByteArray} (h : reCode n l = 0) : brkParts (reB0 n l) = true := by
 unfold reCode at h
 cases p : brkParts (reB0 n l)
 · rw [p, Bool.and_false] at h
   revert h
   cases (inR n 1 32 && diskOk l) <;> cases ((filesOf l 0).all rlImpl && logOk (reB0 n l).log.entries) <;> cases ((filesOf l 2).all rrImpl && recsOk (reB0 n l).receipts) <;> simp
 · rfl
theorem re_disk {n : Int} {l : List ByteArray} (h : reCode n l = 0) : l.length = 3 := by
 unfold reCode at h
 cases p : (inR n 1 32 && diskOk l)
 · rw [p] at h; exact absurd h (by simp)
 · rw [Bool.and_eq_true] at p; exact disk_three p.2
theorem pk_len2 (nd : ByteArray → ByteArray → ByteArray) (L : List ByteArray) (h : L.length ≤ 512) : (peaksOf nd L).reverse.length ≤ 1000 := by
 rw [List.length_reverse, peaks_len]
 have := pc_le L.length
 omega
theorem reBB_len (n : Int) (l : List ByteArray) : BLen (reBB n l) := by
 unfold reBB
 by_cases h : reCode n l = 0
 · rw [if_pos h]
   have p := re_parts h
   simp only [brkParts, Bool.and_eq_true, decide_eq_true_eq] at p
   obtain ⟨⟨⟨⟨⟨⟨⟨hw, hlog⟩, hrec⟩, h0⟩, hh⟩, hz0⟩, hsl⟩, hrd⟩ := p
   have l1 := (logOk_all hlog).1; have l2 := (recsOk_all hrec).1; have l3 := (headsOk_all hh).2.1
   refine ⟨by show (reB0 n l).log.entries.length ≤ 1000; omega, by show (reB0 n l).receipts.length ≤ 1000; omega, by show (reB0 n l).heads.length ≤ 1000; omega, ?_, ?_⟩
   · exact pk_len2 _ _ (by rw [List.length_take, leavesH, List.length_map]; omega)
   · exact pk_len2 _ _ (by rw [List.length_take, takenH, List.length_map]; omega)
 · rw [if_neg h]; exact ⟨by decide, by decide, by decide, by decide, by decide⟩
theorem reW_len (n : Int) (l : List ByteArray) : (reW n l).length ≤ 3 := by
 unfold reW
 by_cases h : reCode n l = 0
 · rw [if_pos h]
   have h1 := dmgs_len l 0
   have h2 := re_disk h
   simp only [dmgW, List.length_map]
   omega
 · rw [if_neg h]; simp
theorem pk_size {n : Int} {L : List ByteArray} (hw : inR n 1 32 = true) (h : ∀ x ∈ L, WdT n x) : ∀ s ∈ (peaksOf (ndB n) L).reverse, s.size ≤ 1048576 := fun s hs => by
 have h1 := peaks_wd hw h s (by simpa using hs)
 have h2 := inR_true hw
 unfold WdT at h1
 omega
theorem reBB_lens (n : Int) (l : List ByteArray) : ∀ k ∈ (reBB n l).lens, k ≤ 1048576 := by
 have hl := reBB_len n l
 unfold reBB at hl ⊢
 by_cases h : reCode n l = 0
 · rw [if_pos h] at hl ⊢
   have p := re_parts h
   simp only [brkParts, Bool.and_eq_true, decide_eq_true_eq] at p
   obtain ⟨⟨⟨⟨⟨⟨⟨hw, hlog⟩, hrec⟩, h0⟩, hh⟩, hz0⟩, hsl⟩, hrd⟩ := p
   obtain ⟨le, lr, lh, lp, lq⟩ := hl
   have hw2 := inR_true (show inR n 1 32 = true from hw)
   have HB : ∀ x ∈ (reB n l).heads, ∀ k ∈ x.lens, k ≤ 1048576 := fun x hx k hk => by
    obtain ⟨j, hj, e⟩ := List.mem_iff_getElem.1 hx
    have ok := (headAt_ok (List.getElem?_eq_some_iff.2 ⟨hj, e⟩) ((headsOk_all hh).2.2 j hj)).1
    have hi := headOk_in ok
    have hn : (reB0 n l).width = n := rfl
    rw [hn] at hi
    simp only [HeadD.lens, List.mem_cons, List.not_mem_nil, or_false] at hk
    rcases hk with rfl | rfl <;> omega
   intro k hk
   simp only [BrokerD.lens, LogD.lens, SealD.lens, RangeD.lens, List.mem_append, List.mem_cons, List.mem_flatMap, List.not_mem_nil, or_false] at hk
   rcases hk with (rfl | ⟨x, hx, hk⟩) | (rfl | ⟨x, hx, hk⟩) | (rfl | ⟨x, hx, hk⟩) | (rfl | ⟨x, hx, hk⟩) | (rfl | ⟨x, hx, hk⟩) | hk
   · omega
   · have := entryOk_bounds ((logOk_all hlog).2 x hx)
     simp only [EntryD.lens, List.mem_cons, List.not_mem_nil, or_false] at hk
     rcases hk with rfl | rfl | rfl <;> omega
   · omega
   · have ok := (recsOk_all hrec).2 x hx
     simp only [receiptOk, Bool.and_eq_true] at ok
     have s1 := nameOk_size ok.1.1; have s2 := nameOk_size ok.1.2
     simp only [ReceiptD.lens, List.mem_cons, List.not_mem_nil, or_false] at hk
     rcases hk with rfl | rfl <;> omega
   · omega
   · exact HB x hx k hk
   · omega
   · simp only [slens, List.mem_cons, List.not_mem_nil, or_false] at hk
     subst hk
     exact pk_size hw (fun y hy => leavesH_size hw hlog y (List.mem_of_mem_take hy)) x hx
   · omega
   · simp only [slens, List.mem_cons, List.not_mem_nil, or_false] at hk
     subst hk
     exact pk_size hw (fun y hy => takenH_size hw hrec y (List.mem_of_mem_take hy)) x hx
   · have hm : lastH (reB0 n l).heads ∈ (reB n l).heads := List.mem_of_getElem? (last_at h0)
     exact HB _ hm k hk
 · rw [if_neg h]
   intro k hk
   simp [noB, BrokerD.lens, LogD.lens, SealD.lens, RangeD.lens, HeadD.lens, hz] at hk
   have h0 : (⟨#[]⟩ : ByteArray).size = 0 := rfl
   omega
structure BRd (p : Nat → Prop) (w : World) (b : BrokerD) (E0 : Option Addr) (e0 : Nat) (E1 : Option Addr) (e1 : Nat) (E2 : Option Addr) (e2 : Nat) (E3 : Option Addr) (e3 : Nat) (E4 : Option Addr) (e4 : Nat) : Prop where
 e : SlF p EntryD.cells 5 w E0 b.log.entries e0
 r : SlF p ReceiptD.cells 3 w E1 b.receipts e1
 h : SlF p HeadD.cells 5 w E2 b.heads e2
 u : SlF p sone 1 w E3 b.sealed.leaves.peaks e3
 v : SlF p sone 1 w E4 b.sealed.taken.peaks e4
theorem slF_lt2 {α : Type} {f : α → List Value} {size : Nat} {p : Nat → Prop} {w : World} {A : Option Addr} {l : List α} {c : Nat} (h : SlF p f size w A l c) : SlF (fun b => b < w.heap.size) f size w A l c :=
 ⟨h.le, h.cap, h.reads, fun h0 a e => by obtain ⟨b, off, e2, hb, _⟩ := h.reads.2 h0; rw [e] at e2; cases e2; exact hb⟩
theorem BRows.rd {K : Nat} {w : World} {b : BrokerD} {E0 E1 E2 E3 E4 : Option Addr} {e0 e1 e2 e3 e4 : Nat} (h : BRows K w b (.slice E0 b.log.entries.length e0) (.slice E1 b.receipts.length e1) (.slice E2 b.heads.length e2) (.slice E3 b.sealed.leaves.peaks.length e3) (.slice E4 b.sealed.taken.peaks.length e4)) : BRd (fun b => b < w.heap.size) w b E0 e0 E1 e1 E2 e2 E3 e3 E4 e4 :=
 ⟨slF_lt2 (slf_at h.e), slF_lt2 (slf_at h.r), slF_lt2 (slf_at h.h), slF_lt2 (slf_at h.p), slF_lt2 (slf_at h.q)⟩
theorem BRd.keep {p : Nat → Prop} {w w' : World} {b : BrokerD} {E0 E1 E2 E3 E4 : Option Addr} {e0 e1 e2 e3 e4 : Nat} (h : BRd p w b E0 e0 E1 e1 E2 e2 E3 e3 E4 e4) (he : Keep p w w') : BRd p w' b E0 e0 E1 e1 E2 e2 E3 e3 E4 e4 := ⟨h.e.keep he, h.r.keep he, h.h.keep he, h.u.keep he, h.v.keep he⟩
theorem BRd.ext {p : Nat → Prop} {w w' : World} {b : BrokerD} {E0 E1 E2 E3 E4 : Option Addr} {e0 e1 e2 e3 e4 : Nat} (h : BRd p w b E0 e0 E1 e1 E2 e2 E3 e3 E4 e4) (he : Ext w w') : BRd p w' b E0 e0 E1 e1 E2 e2 E3 e3 E4 e4 := ⟨h.e.ext he, h.r.ext he, h.h.ext he, h.u.ext he, h.v.ext he⟩
theorem eqBroker_two {p q : Nat → Prop} {w : World} {b : BrokerD} {X0 X1 X2 X3 X4 Y0 Y1 Y2 Y3 Y4 : Option Addr} {x0 x1 x2 x3 x4 y0 y1 y2 y3 y4 : Nat} (h : BRd p w b X0 x0 X1 x1 X2 x2 X3 x3 X4 x4) (k : BRd q w b Y0 y0 Y1 y1 Y2 y2 Y3 y3 Y4 y4) (hf : ∀ n ∈ b.lens, n ≤ 1048576) :
 Calls Tryz.prog 20 #[.agg #[.int .i64 b.width, .slice X0 b.log.entries.length x0, .slice X1 b.receipts.length x1, .slice X2 b.heads.length x2, .int .i64 b.sealed.leaves.size, .slice X3 b.sealed.leaves.peaks.length x3, .int .i64 b.sealed.taken.size, .slice X4 b.sealed.taken.peaks.length x4, .int .i64 b.sealed.head.number, .int .i64 b.sealed.head.size, .string b.sealed.head.root, .int .i64 b.sealed.head.taken, .string b.sealed.head.takenRoot], .agg #[.int .i64 b.width, .slice Y0 b.log.entries.length y0, .slice Y1 b.receipts.length y1, .slice Y2 b.heads.length y2, .int .i64 b.sealed.leaves.size, .slice Y3 b.sealed.leaves.peaks.length y3, .int .i64 b.sealed.taken.size, .slice Y4 b.sealed.taken.peaks.length y4, .int .i64 b.sealed.head.number, .int .i64 b.sealed.head.size, .string b.sealed.head.root, .int .i64 b.sealed.head.taken, .string b.sealed.head.takenRoot]] w fun e w' => e = .returned (.bool true) ∧ Ext w w' :=
 eqBroker_same b X0 x0 X1 x1 X2 x2 X3 x3 X4 x4 Y0 y0 Y1 y1 Y2 y2 Y3 y3 Y4 y4 w h.e.any h.r.any h.h.any h.u.any h.v.any k.e.any k.r.any k.h.any k.u.any k.v.any hf
theorem eqWriteS_two {w : World} {W : List WriteD} {K : Nat} {A A' : Option Addr} {c c' : Nat} (h : w.ownsRow K 112 3 (.slice A W.length c) W.length (W.flatMap WriteD.cells)) (k : SlF AnyB WriteD.cells 3 w A' W c') (hl : W.length ≤ 3) :
 Calls Tryz.prog 26 #[.slice A W.length c, .slice A' W.length c'] w fun e w' => e = .returned (.bool true) ∧ Ext w w' :=
 eqWriteS_same A A' c c' W w (slf_at h).reads k.reads (by omega)
set_option maxHeartbeats 2000000 in
theorem toDisk_own (d : DiskD) (A0 : Option Addr) (c0 : Nat) (w : World) (s0 : SlF AnyB sone 1 w A0 d.files c0) (hf : ∀ n ∈ d.lens, n ≤ 1048576) :
 Calls Tryz.prog 11 #[.agg #[.slice A0 d.files.length c0]] w fun e w' => ∃ g0, e = .returned (.agg #[.slice (some ⟨g0, 0, none⟩) d.files.length d.files.length]) ∧ w.heap.size ≤ g0 ∧ Blk w' g0 9 (d.files.flatMap sone).toArray ∧ Ext w w' := by
 have l_files : d.files.length ≤ 1048576 := hf _ (by simp [DiskD.lens])
 have S0 := hI s0; clear s0
 clear hf
 go_enter Tryz.func11, Tryz.ntmps11
 go_wp2_with fail
 have HE : Ext w (((w.alloc (.cells #[.slice A0 d.files.length c0] 24)).alloc (.cells #[.slice none 0 0] 27)).alloc (.cells #[.slice none 0 0] 27)) := Ext.new (Ext.new (Ext.new (Below.refl _ w) _) _) _
 refine (toStringS_any A0 c0 d.files _ (S0.out.ext HE) l_files).mono ?_
 rintro e x0 ⟨g0, rfl, hg, bg, hx⟩
 have B0 := (((Blk.new _ _ _).alloc _).alloc _).ext hx
 have B1 := ((Blk.new _ _ _).alloc _).ext hx
 have B2 := (Blk.new _ _ _).ext hx
 have he := HE.next hx
 have hgs : w.heap.size + 1 + 1 + 1 ≤ w.heap.size + 1 + 1 + 1 := Nat.le_refl _
 simp only [World.size_alloc] at B1 B2 hg
 have T0 := bg
 clear hx HE hgs
 obtain ⟨r0, f0⟩ := B0.rules
 obtain ⟨r2, f2⟩ := B2.rules
 go_upto_region 3 with fail
 have he_ := ext_setCells (W := w) (g := (w.heap.size + 1 + 1)) (by omega) [.slice (some ⟨g0, 0, none⟩) d.files.length d.files.length] 0 x0 he
 have C2 := B2.put 0 [.slice (some ⟨g0, 0, none⟩) d.files.length d.files.length] #[.slice (some ⟨g0, 0, none⟩) d.files.length d.files.length] (by simp) rfl
 have C1 := B1.farCells (g' := (w.heap.size + 1 + 1)) (by omega) [.slice (some ⟨g0, 0, none⟩) d.files.length d.files.length] 0
 have C0 := B0.farCells (g' := (w.heap.size + 1 + 1)) (by omega) [.slice (some ⟨g0, 0, none⟩) d.files.length d.files.length] 0
 replace T0 := T0.farCells (g' := (w.heap.size + 1 + 1)) (by omega) [.slice (some ⟨g0, 0, none⟩) d.files.length d.files.length] 0
 clear r0 f0 r2 f2 B0 B1 B2 he
 change Code.wp _ _ _ _ (x0.setCells (w.heap.size + 1 + 1) 0 [.slice (some ⟨g0, 0, none⟩) d.files.length d.files.length])
 generalize x0.setCells (w.heap.size + 1 + 1) 0 [.slice (some ⟨g0, 0, none⟩) d.files.length d.files.length] = y0 at *
 have B0 := C0; have B1 := C1; have B2 := C2; have he := he_
 clear C0 C1 C2 he_
 obtain ⟨r0, f0⟩ := B0.rules
 obtain ⟨r2, f2⟩ := B2.rules
 obtain ⟨r1, f1⟩ := B1.rules
 go_wp2_with fail
 have he_ := ext_setCells (W := w) (g := w.heap.size + 1) (by omega) [.slice (some ⟨g0, 0, none⟩) d.files.length d.files.length] 0 y0 he
 have E1 := B1.put 0 [.slice (some ⟨g0, 0, none⟩) d.files.length d.files.length] #[.slice (some ⟨g0, 0, none⟩) d.files.length d.files.length] (by simp) rfl
 replace T0 := T0.farCells (g' := w.heap.size + 1) (by omega) [.slice (some ⟨g0, 0, none⟩) d.files.length d.files.length] 0
 change bodyPost _ _ _ _ _ (y0.setCells (w.heap.size + 1) 0 [.slice (some ⟨g0, 0, none⟩) d.files.length d.files.length])
 clear r0 f0 r1 f1 r2 f2 B0 B1 B2 he
 generalize y0.setCells (w.heap.size + 1) 0 [.slice (some ⟨g0, 0, none⟩) d.files.length d.files.length] = z at *
 exact ret_row rfl rfl E1 Tryz.underlying27 rfl (by kernel_rfl) rfl ⟨g0, rfl, by omega, T0, he_⟩
theorem markDisk_row2 {K md k : Nat} {vd : Value} {a : List Value} (w : World) (ho : w.ownsRow K 9 1 vd md a) (hl : md ≤ 1048576) (hk : k ≤ 1000000) :
 Calls Tryz.prog 27 #[.agg #[vd], .int .i64 (k : Int)] w fun e w' => e = .returned (.int .i64 ((k + md : Nat) : Int)) ∧ Frm (InBlock vd) w w' := by
 obtain ⟨Vd, cd, rfl, hnc⟩ := ownsRow_form ho
 have He := hI (Ext.new (Below.refl w.heap.size w) (.cells #[.slice Vd md cd] 27))
 have HO := hI ho; clear ho
 go_enter Tryz.func27, Tryz.ntmps27
 go_wp2_with fail
 refine (markStringS_row (k := k) (ownsRow_ext HO.out He.out) (by omega) (by omega)).mono ?_
 rintro e w1 ⟨rfl, m1, f1⟩
 have F1 := hI ((Frm.of_ext (X := InBlock (.slice Vd md cd)) He.out).next f1 (fun b _ h => h))
 clear m1 f1
 go_wp2_with fail
 go_ret
 exact ⟨rfl, F1.out⟩
set_option maxHeartbeats 8000000 in
theorem lawReopen_walk (n : Int) (d : DiskD) (A0 : Option Addr) (c0 : Nat) (w : World) (hok : d.Ok) (s0 : SlF AnyB sone 1 w A0 d.files c0) :
 Calls Tryz.prog 5 #[.int .i64 n, .agg #[.slice A0 d.files.length c0]] w fun e w' => e = .returned (.bool true) ∧ Ext w w' := by
 have S0 := hI s0; clear s0
 have Hok := hI hok; clear hok
 have K0 := Blk.new w 24 #[.slice A0 d.files.length c0]
 have he := Ext.new (Below.refl w.heap.size w) (.cells #[.slice A0 d.files.length c0] 24)
 have RG := hI K0.range
 by_cases cz : szL d.lens 1048576 < 0
 · go_enter Tryz.func5, Tryz.ntmps5
   go_wp2_with (refine wpList_load_mid rfl 24 _ rfl w.heap.size 0 rfl [.slice A0 d.files.length c0] _ RG.out Tryz.underlying24 rfl (by kernel_rfl) ?_)
   refine (szDisk_any d A0 c0 _ _ Hok.out (S0.out.ext he) (by decide) (by decide)).mono ?_
   rintro e w1 ⟨rfl, h1⟩
   replace he := he.next h1; clear h1
   go_wp2_with fail
   go_ret
   exact ⟨rfl, he⟩
 have hf := szL_fit (by decide) (by decide) cz
 have HF := hI hf
 have hl : d.files.length ≤ 1048576 := hf _ (by simp [DiskD.lens])
 have hsz := hI (show ∀ x ∈ d.files, x.size ≤ 1099511627776 from fun x hx => Nat.le_trans (hf _ (List.mem_append.2 (.inl (List.mem_cons_of_mem _ (List.mem_flatMap.2 ⟨x, hx, by simp [slens]⟩))))) (by decide))
 clear hf
 have SP : Hid (∀ (g : Nat) (w : World), Blk w g 9 (d.files.flatMap sone).toArray → Calls Tryz.prog 24 #[.int .i64 n, .agg #[.slice (some ⟨g, 0, none⟩) d.files.length d.files.length]] w (fun e w' => ∃ ve vr vh v1 v2 vw, e = .returned (.tuple #[.agg (brkCs (reBB n d.files) ve vr vh v1 v2).toArray, vw, .int .i64 (reCode n d.files : Int)]) ∧ BRows w.heap.size w' (reBB n d.files) ve vr vh v1 v2 ∧ (∀ x, v1.ownBlock = some x → v2.ownBlock ≠ some x) ∧ w'.ownsRow w.heap.size 112 3 vw (reW n d.files).length ((reW n d.files).flatMap WriteD.cells) ∧ Ext w w')) := hI (fun g w h => specReopen_any n (some ⟨g, 0, none⟩) d.files.length d.files w (h.readsL sone_length) hl hsz.out)
 have IM : Hid (∀ (g : Nat) (w : World), Blk w g 9 (d.files.flatMap sone).toArray → Calls Tryz.prog 25 #[.int .i64 n, .agg #[.slice (some ⟨g, 0, none⟩) d.files.length d.files.length]] w (fun e w' => ∃ ve vr vh v1 v2 vw, e = .returned (.tuple #[.agg (brkCs (reBB n d.files) ve vr vh v1 v2).toArray, vw, .int .i64 (reCode n d.files : Int)]) ∧ BRows w.heap.size w' (reBB n d.files) ve vr vh v1 v2 ∧ (∀ x, v1.ownBlock = some x → v2.ownBlock ≠ some x) ∧ w'.ownsRow w.heap.size 112 3 vw (reW n d.files).length ((reW n d.files).flatMap WriteD.cells) ∧ Ext w w')) := hI (fun g w h => implReopen_any n (some ⟨g, 0, none⟩) d.files.length d.files w (h.readsL sone_length) hl hsz.out)
 have BL := hI (reBB_lens n d.files); have BN := hI (reBB_len n d.files); have wl := reW_len n d.files
 generalize reBB n d.files = b at SP IM BL BN
 generalize reW n d.files = W at SP IM wl
 generalize reCode n d.files = cc at SP IM
 have ccn : ((cc : Int) != (cc : Int)) = false := by simp
 have bne : BrkN b ≤ 20000 := by
  obtain ⟨h1, h2, h3, h4, h5⟩ := BN.out
  unfold BrkN
  omega
 go_enter Tryz.func5, Tryz.ntmps5
 go_wp2_with (refine wpList_load_mid rfl 24 _ rfl w.heap.size 0 rfl [.slice A0 d.files.length c0] _ RG.out Tryz.underlying24 rfl (by kernel_rfl) ?_)
 obtain ⟨g, hg⟩ : ∃ g, g = w.heap.size := ⟨_, rfl⟩
 rw [← hg] at K0
 rw [← hg]
 clear hg RG
 refine (szDisk_any d A0 c0 _ _ Hok.out (S0.out.ext he) (by decide) (by decide)).mono ?_
 rintro e w1 ⟨rfl, h1⟩
 replace K0 := K0.ext h1; replace he := he.next h1; clear h1
 have RG := hI K0.range
 go_wp2_with (refine wpList_load_mid rfl 24 _ rfl g 0 rfl [.slice A0 d.files.length c0] _ RG.out Tryz.underlying24 rfl (by kernel_rfl) ?_)
 refine (toDisk_own d A0 c0 _ (S0.out.ext he) HF.out).mono ?_
 rintro e w2 ⟨gy, rfl, _, by_, h1⟩
 replace K0 := K0.ext h1; replace he := he.next h1; clear h1 RG
 go_wp2_with fail
 refine (SP.out gy _ by_).mono ?_
 rintro e w3 ⟨ve, vr, vh, v1, v2, vw, rfl, ty, _, ow, h1⟩
 replace K0 := K0.ext h1; replace he := he.next h1; clear h1 by_ SP
 obtain ⟨Y0, y0, rfl, _⟩ := ownsRow_form ty.e
 obtain ⟨Y1, y1, rfl, _⟩ := ownsRow_form ty.r
 obtain ⟨Y2, y2, rfl, _⟩ := ownsRow_form ty.h
 obtain ⟨Y3, y3, rfl, _⟩ := ownsRow_form ty.p
 obtain ⟨Y4, y4, rfl, _⟩ := ownsRow_form ty.q
 obtain ⟨YW, yw, rfl, _⟩ := ownsRow_form ow
 have ry := ty.rd
 have rw_ := slF_lt2 (slf_at ow)
 clear ty ow
 simp only [brkCs]
 have KZ := Blk.new w3 59 #[.int .i64 0, .slice none 0 0, .slice none 0 0, .slice none 0 0, .int .i64 0, .slice none 0 0, .int .i64 0, .slice none 0 0, .int .i64 0, .int .i64 0, .string ⟨#[]⟩, .int .i64 0, .string ⟨#[]⟩]
 obtain ⟨w4, hw, Bq0, hx⟩ : ∃ w4, w4 = (w3.alloc (.cells #[.int .i64 0, .slice none 0 0, .slice none 0 0, .slice none 0 0, .int .i64 0, .slice none 0 0, .int .i64 0, .slice none 0 0, .int .i64 0, .int .i64 0, .string ⟨#[]⟩, .int .i64 0, .string ⟨#[]⟩] 59)).setCells w3.heap.size 0 [.int .i64 b.width, .slice Y0 b.log.entries.length y0, .slice Y1 b.receipts.length y1, .slice Y2 b.heads.length y2, .int .i64 b.sealed.leaves.size, .slice Y3 b.sealed.leaves.peaks.length y3, .int .i64 b.sealed.taken.size, .slice Y4 b.sealed.taken.peaks.length y4, .int .i64 b.sealed.head.number, .int .i64 b.sealed.head.size, .string b.sealed.head.root, .int .i64 b.sealed.head.taken, .string b.sealed.head.takenRoot] ∧ Blk w4 w3.heap.size 59 #[.int .i64 b.width, .slice Y0 b.log.entries.length y0, .slice Y1 b.receipts.length y1, .slice Y2 b.heads.length y2, .int .i64 b.sealed.leaves.size, .slice Y3 b.sealed.leaves.peaks.length y3, .int .i64 b.sealed.taken.size, .slice Y4 b.sealed.taken.peaks.length y4, .int .i64 b.sealed.head.number, .int .i64 b.sealed.head.size, .string b.sealed.head.root, .int .i64 b.sealed.head.taken, .string b.sealed.head.takenRoot] ∧ Ext w3 w4 :=
  ⟨_, rfl, KZ.put 0 [.int .i64 b.width, .slice Y0 b.log.entries.length y0, .slice Y1 b.receipts.length y1, .slice Y2 b.heads.length y2, .int .i64 b.sealed.leaves.size, .slice Y3 b.sealed.leaves.peaks.length y3, .int .i64 b.sealed.taken.size, .slice Y4 b.sealed.taken.peaks.length y4, .int .i64 b.sealed.head.number, .int .i64 b.sealed.head.size, .string b.sealed.head.root, .int .i64 b.sealed.head.taken, .string b.sealed.head.takenRoot] #[.int .i64 b.width, .slice Y0 b.log.entries.length y0, .slice Y1 b.receipts.length y1, .slice Y2 b.heads.length y2, .int .i64 b.sealed.leaves.size, .slice Y3 b.sealed.leaves.peaks.length y3, .int .i64 b.sealed.taken.size, .slice Y4 b.sealed.taken.peaks.length y4, .int .i64 b.sealed.head.number, .int .i64 b.sealed.head.size, .string b.sealed.head.root, .int .i64 b.sealed.head.taken, .string b.sealed.head.takenRoot] (by simp) rfl, ext_setCells (W := w3) (g := w3.heap.size) (Nat.le_refl _) [.int .i64 b.width, .slice Y0 b.log.entries.length y0, .slice Y1 b.receipts.length y1, .slice Y2 b.heads.length y2, .int .i64 b.sealed.leaves.size, .slice Y3 b.sealed.leaves.peaks.length y3, .int .i64 b.sealed.taken.size, .slice Y4 b.sealed.taken.peaks.length y4, .int .i64 b.sealed.head.number, .int .i64 b.sealed.head.size, .string b.sealed.head.root, .int .i64 b.sealed.head.taken, .string b.sealed.head.takenRoot] 0 _ (Ext.new (Below.refl _ _) _)⟩
 have T4 := hI (KZ.there 0 13 (by simp)); have HW := hI hw
 replace K0 := K0.ext hx; replace he := he.next hx; have RY := hI (ry.ext hx); have RW := hI (rw_.ext hx); have hw34 := hx.size
 clear hw hx KZ
 go_upto_region 6 with (refine wpList_store_list rfl 59 _ _ rfl rfl w3.heap.size 0 [.int .i64 b.width, .slice Y0 b.log.entries.length y0, .slice Y1 b.receipts.length y1, .slice Y2 b.heads.length y2, .int .i64 b.sealed.leaves.size, .slice Y3 b.sealed.leaves.peaks.length y3, .int .i64 b.sealed.taken.size, .slice Y4 b.sealed.taken.peaks.length y4, .int .i64 b.sealed.head.number, .int .i64 b.sealed.head.size, .string b.sealed.head.root, .int .i64 b.sealed.head.taken, .string b.sealed.head.takenRoot] rfl rfl T4.out (by kernel_rfl) (by rfl) ?_; rw [← HW.out])
 obtain ⟨q0, hg⟩ : ∃ q0, q0 = w3.heap.size := ⟨_, rfl⟩
 rw [← hg] at Bq0
 rw [← hg]
 clear T4 HW
 have low : w3.heap.size ≤ w4.heap.size := hw34
 clear ry rw_ hw34 hg
 have RG := hI K0.range
 go_wp2_with (refine wpList_load_mid rfl 24 _ rfl g 0 rfl [.slice A0 d.files.length c0] _ RG.out Tryz.underlying24 rfl (by kernel_rfl) ?_)
 refine (toDisk_own d A0 c0 _ (S0.out.ext he) HF.out).mono ?_
 rintro e w5 ⟨gx, rfl, hgx, bx, h1⟩
 have hq0 : q0 < gx := Nat.lt_of_lt_of_le Bq0.lt hgx
 have hgg : g < gx := Nat.lt_of_lt_of_le K0.lt hgx
 have hwx : w.heap.size ≤ gx := Nat.le_trans he.size hgx
 have low2 : w3.heap.size ≤ gx := Nat.le_trans low hgx
 replace K0 := K0.ext h1; replace he := he.next h1; replace Bq0 := Bq0.ext h1; replace RY := hI (RY.out.ext h1); replace RW := hI (RW.out.ext h1)
 clear h1 RG hgx low
 go_upto_region 7 with fail
 have E45 := Ext.new (Below.refl w5.heap.size w5) (.cells #[.slice (some ⟨gx, 0, none⟩) d.files.length d.files.length] 27)
 have BX := Blk.new w5 27 #[.slice (some ⟨gx, 0, none⟩) d.files.length d.files.length]
 replace K0 := K0.ext E45; replace he := he.next E45; replace Bq0 := Bq0.ext E45; replace RY := hI (RY.out.ext E45); replace RW := hI (RW.out.ext E45)
 have hxk : gx < w5.heap.size := bx.lt
 replace bx := bx.ext E45
 obtain ⟨k5, hk5⟩ : ∃ k5, k5 = w5.heap.size := ⟨_, rfl⟩
 rw [← hk5] at BX hxk
 rw [← hk5]
 clear hk5 E45
 generalize w5.alloc (.cells #[.slice (some ⟨gx, 0, none⟩) d.files.length d.files.length] 27) = w6 at *
 have RX := hI BX.range
 go_wp2_with (refine wpList_load_mid rfl 27 _ rfl k5 0 rfl [.slice (some ⟨gx, 0, none⟩) d.files.length d.files.length] _ RX.out Tryz.underlying27 rfl (by kernel_rfl) ?_)
 refine (IM.out gx _ bx).mono ?_
 rintro e w7 ⟨ve, vr, vh, v1, v2, vw, rfl, tx, ap, ow, h1⟩
 have hs6 : k5 < w6.heap.size := BX.lt
 have hsx : gx < w6.heap.size := bx.lt
 replace K0 := K0.ext h1; replace he := he.next h1; replace Bq0 := Bq0.ext h1; replace RY := hI (RY.out.ext h1); replace RW := hI (RW.out.ext h1); replace bx := bx.ext h1; replace BX := BX.ext h1
 have hs67 := h1.size
 clear h1 RX
 obtain ⟨X0, x0, rfl, _⟩ := ownsRow_form tx.e
 obtain ⟨X1, x1, rfl, _⟩ := ownsRow_form tx.r
 obtain ⟨X2, x2, rfl, _⟩ := ownsRow_form tx.h
 obtain ⟨X3, x3, rfl, _⟩ := ownsRow_form tx.p
 obtain ⟨X4, x4, rfl, _⟩ := ownsRow_form tx.q
 obtain ⟨XW, xw, rfl, _⟩ := ownsRow_form ow
 have AP := hI ap
 have LX := hI (show ∀ x, BBlk (.slice X0 b.log.entries.length x0) (.slice X1 b.receipts.length x1) (.slice X2 b.heads.length x2) (.slice X3 b.sealed.leaves.peaks.length x3) (.slice X4 b.sealed.taken.peaks.length x4) x → w6.heap.size ≤ x ∧ x < w7.heap.size from fun x hx => by
  rcases hx with h | h | h | h | h
  · exact tx.e.lt x h
  · exact tx.r.lt x h
  · exact tx.h.lt x h
  · exact tx.p.lt x h
  · exact tx.q.lt x h)
 have LW := hI ow.lt
 have AW := hI (show ∀ x, BBlk (.slice X0 b.log.entries.length x0) (.slice X1 b.receipts.length x1) (.slice X2 b.heads.length x2) (.slice X3 b.sealed.leaves.peaks.length x3) (.slice X4 b.sealed.taken.peaks.length x4) x → (Value.slice XW W.length xw).ownBlock ≠ some x from fun x hx => by
  rcases hx with h | h | h | h | h
  · exact own_apart tx.e ow (by decide) x h
  · exact own_apart tx.r ow (by decide) x h
  · exact own_apart tx.h ow (by decide) x h
  · exact own_apart tx.p ow (by decide) x h
  · exact own_apart tx.q ow (by decide) x h)
 clear ap
 simp only [brkCs]
 have KZ := Blk.new w7 59 #[.int .i64 0, .slice none 0 0, .slice none 0 0, .slice none 0 0, .int .i64 0, .slice none 0 0, .int .i64 0, .slice none 0 0, .int .i64 0, .int .i64 0, .string ⟨#[]⟩, .int .i64 0, .string ⟨#[]⟩]
 obtain ⟨w8, hw, Bq1, hx⟩ : ∃ w8, w8 = (w7.alloc (.cells #[.int .i64 0, .slice none 0 0, .slice none 0 0, .slice none 0 0, .int .i64 0, .slice none 0 0, .int .i64 0, .slice none 0 0, .int .i64 0, .int .i64 0, .string ⟨#[]⟩, .int .i64 0, .string ⟨#[]⟩] 59)).setCells w7.heap.size 0 [.int .i64 b.width, .slice X0 b.log.entries.length x0, .slice X1 b.receipts.length x1, .slice X2 b.heads.length x2, .int .i64 b.sealed.leaves.size, .slice X3 b.sealed.leaves.peaks.length x3, .int .i64 b.sealed.taken.size, .slice X4 b.sealed.taken.peaks.length x4, .int .i64 b.sealed.head.number, .int .i64 b.sealed.head.size, .string b.sealed.head.root, .int .i64 b.sealed.head.taken, .string b.sealed.head.takenRoot] ∧ Blk w8 w7.heap.size 59 #[.int .i64 b.width, .slice X0 b.log.entries.length x0, .slice X1 b.receipts.length x1, .slice X2 b.heads.length x2, .int .i64 b.sealed.leaves.size, .slice X3 b.sealed.leaves.peaks.length x3, .int .i64 b.sealed.taken.size, .slice X4 b.sealed.taken.peaks.length x4, .int .i64 b.sealed.head.number, .int .i64 b.sealed.head.size, .string b.sealed.head.root, .int .i64 b.sealed.head.taken, .string b.sealed.head.takenRoot] ∧ Ext w7 w8 :=
  ⟨_, rfl, KZ.put 0 [.int .i64 b.width, .slice X0 b.log.entries.length x0, .slice X1 b.receipts.length x1, .slice X2 b.heads.length x2, .int .i64 b.sealed.leaves.size, .slice X3 b.sealed.leaves.peaks.length x3, .int .i64 b.sealed.taken.size, .slice X4 b.sealed.taken.peaks.length x4, .int .i64 b.sealed.head.number, .int .i64 b.sealed.head.size, .string b.sealed.head.root, .int .i64 b.sealed.head.taken, .string b.sealed.head.takenRoot] #[.int .i64 b.width, .slice X0 b.log.entries.length x0, .slice X1 b.receipts.length x1, .slice X2 b.heads.length x2, .int .i64 b.sealed.leaves.size, .slice X3 b.sealed.leaves.peaks.length x3, .int .i64 b.sealed.taken.size, .slice X4 b.sealed.taken.peaks.length x4, .int .i64 b.sealed.head.number, .int .i64 b.sealed.head.size, .string b.sealed.head.root, .int .i64 b.sealed.head.taken, .string b.sealed.head.takenRoot] (by simp) rfl, ext_setCells (W := w7) (g := w7.heap.size) (Nat.le_refl _) [.int .i64 b.width, .slice X0 b.log.entries.length x0, .slice X1 b.receipts.length x1, .slice X2 b.heads.length x2, .int .i64 b.sealed.leaves.size, .slice X3 b.sealed.leaves.peaks.length x3, .int .i64 b.sealed.taken.size, .slice X4 b.sealed.taken.peaks.length x4, .int .i64 b.sealed.head.number, .int .i64 b.sealed.head.size, .string b.sealed.head.root, .int .i64 b.sealed.head.taken, .string b.sealed.head.takenRoot] 0 _ (Ext.new (Below.refl _ _) _)⟩
 have T4 := hI (KZ.there 0 13 (by simp)); have HW := hI hw
 replace K0 := K0.ext hx; replace he := he.next hx; replace Bq0 := Bq0.ext hx; replace RY := hI (RY.out.ext hx); replace RW := hI (RW.out.ext hx); replace bx := bx.ext hx; replace BX := BX.ext hx; have TX := hI (tx.ext hx); have OW := hI (ownsRow_ext ow hx)
 clear hw hx KZ
 go_upto_region 8 with (refine wpList_store_list rfl 59 _ _ rfl rfl w7.heap.size 0 [.int .i64 b.width, .slice X0 b.log.entries.length x0, .slice X1 b.receipts.length x1, .slice X2 b.heads.length x2, .int .i64 b.sealed.leaves.size, .slice X3 b.sealed.leaves.peaks.length x3, .int .i64 b.sealed.taken.size, .slice X4 b.sealed.taken.peaks.length x4, .int .i64 b.sealed.head.number, .int .i64 b.sealed.head.size, .string b.sealed.head.root, .int .i64 b.sealed.head.taken, .string b.sealed.head.takenRoot] rfl rfl T4.out (by kernel_rfl) (by rfl) ?_; rw [← HW.out])
 obtain ⟨q1, hg⟩ : ∃ q1, q1 = w7.heap.size := ⟨_, rfl⟩
 rw [← hg] at Bq1
 rw [← hg]
 clear T4 HW
 rw [← hg] at LX LW
 have hq6 : w6.heap.size ≤ q1 := by rw [hg]; exact hs67
 clear tx ow hg
 have R1 := hI (Blk.range Bq1); have R0 := hI (Blk.range Bq0)
 go_wp2_with (first | (refine wpList_load_mid rfl 59 _ rfl q1 0 rfl [.int .i64 b.width, .slice X0 b.log.entries.length x0, .slice X1 b.receipts.length x1, .slice X2 b.heads.length x2, .int .i64 b.sealed.leaves.size, .slice X3 b.sealed.leaves.peaks.length x3, .int .i64 b.sealed.taken.size, .slice X4 b.sealed.taken.peaks.length x4, .int .i64 b.sealed.head.number, .int .i64 b.sealed.head.size, .string b.sealed.head.root, .int .i64 b.sealed.head.taken, .string b.sealed.head.takenRoot] _ R1.out Tryz.underlying59 rfl (by kernel_rfl) ?_) | (refine wpList_load_mid rfl 59 _ rfl q0 0 rfl [.int .i64 b.width, .slice Y0 b.log.entries.length y0, .slice Y1 b.receipts.length y1, .slice Y2 b.heads.length y2, .int .i64 b.sealed.leaves.size, .slice Y3 b.sealed.leaves.peaks.length y3, .int .i64 b.sealed.taken.size, .slice Y4 b.sealed.taken.peaks.length y4, .int .i64 b.sealed.head.number, .int .i64 b.sealed.head.size, .string b.sealed.head.root, .int .i64 b.sealed.head.taken, .string b.sealed.head.takenRoot] _ R0.out Tryz.underlying59 rfl (by kernel_rfl) ?_))
 refine (eqBroker_two TX.out.rd RY.out BL.out).mono ?_
 rintro e w9 ⟨rfl, h1⟩
 replace K0 := K0.ext h1; replace he := he.next h1; replace Bq0 := Bq0.ext h1; replace Bq1 := Bq1.ext h1; replace RY := hI (RY.out.ext h1); replace RW := hI (RW.out.ext h1); replace bx := bx.ext h1; replace BX := BX.ext h1; replace TX := hI (TX.out.ext h1); replace OW := hI (ownsRow_ext OW.out h1)
 clear h1 R0 R1
 go_wp2_with fail
 refine (eqWriteS_two OW.out RW.out.any wl).mono ?_
 rintro e w10 ⟨rfl, h1⟩
 replace K0 := K0.ext h1; replace he := he.next h1; replace Bq0 := Bq0.ext h1; replace Bq1 := Bq1.ext h1; replace RY := hI (RY.out.ext h1); replace RW := hI (RW.out.ext h1); replace bx := bx.ext h1; replace BX := BX.ext h1; replace TX := hI (TX.out.ext h1); replace OW := hI (ownsRow_ext OW.out h1)
 clear h1
 have RG := hI K0.range; have RX := hI BX.range; have lg := K0.lt; have lx := BX.lt
 go_upto_region 10 with fail
 refine wp_region_held_drew (S := fun w' => Ext w10 w') (by kernel_rfl) ⟨rfl, rfl, rfl, Nat.le_refl _, fun _ _ => rfl⟩ (fun hHeld => ?_)
 refine wpAnyH_take (i := 0) (oi := _) (v := _) rfl (by kernel_rfl) (by kernel_rfl) (by kernel_rfl) (fun _ _ _ h => h) (yieldsIf_load_mid (by rfl) 27 _ rfl k5 0 rfl [.slice (some ⟨gx, 0, none⟩) d.files.length d.files.length] _ (fun w' h => range_ext RX.out h lx) Tryz.underlying27 rfl (by kernel_rfl)) hHeld ?_
 (try simp only [Act.put, List.setIfInBounds_toArray, List.set_cons_zero, List.set_cons_succ])
 refine wpAnyH_take (i := 1) (oi := _) (v := _) rfl (by kernel_rfl) (by kernel_rfl) (by kernel_rfl) (fun _ _ _ h => h) (yieldsIf_load_mid (by rfl) 24 _ rfl g 0 rfl [.slice A0 d.files.length c0] _ (fun w' h => range_ext RG.out h lg) Tryz.underlying24 rfl (by kernel_rfl)) hHeld ?_
 (try simp only [Act.put, List.setIfInBounds_toArray, List.set_cons_zero, List.set_cons_succ])
 refine wpAnyH_ready (rs := [2]) (by kernel_rfl) (by simp) ?_
 refine AllReadyH.cons (o := _) rfl (fun K hK => ?_) AllReadyH.nil
 go_simp
 refine (toDisk_own d A0 c0 _ (S0.out.ext (he.next hHeld)) HF.out).mono ?_
 rintro e w11 ⟨gz, rfl, _, bz, h1⟩
 (try go_wp2_with fail)
 refine hK.out _ _ (hHeld.next h1) (fun hH2 => ?_)
 clear hK K
 (try simp only [Act.put, List.setIfInBounds_toArray, List.set_cons_zero, List.set_cons_succ])
 refine wpAnyH_ready (rs := [3]) (by kernel_rfl) (by simp) ?_
 refine AllReadyH.cons (o := _) rfl (fun K hK => ?_) AllReadyH.nil
 go_simp
 refine (eqDisk_same d (some ⟨gx, 0, none⟩) d.files.length (some ⟨gz, 0, none⟩) d.files.length _ (SlF.new sone_length (bx.ext hH2) hl trivial) (SlF.new sone_length bz hl trivial) HF.out).mono ?_
 rintro e w12 ⟨rfl, h2⟩
 (try go_wp2_with fail)
 refine hK.out _ _ (hH2.next h2) (fun hH3 => ?_)
 clear hK K
 (try simp only [Act.put, List.setIfInBounds_toArray, List.set_cons_zero, List.set_cons_succ])
 refine wpAnyH_ready (rs := [4]) (by kernel_rfl) (by simp) ?_
 refine AllReadyH.cons (o := _) rfl (fun K hK => ?_) AllReadyH.nil
 go_simp
 refine hK.out _ _ hH3 (fun hH4 => ?_)
 clear hK K
 (try simp only [Act.put, List.setIfInBounds_toArray, List.set_cons_zero, List.set_cons_succ])
 refine wpAnyH_done (by kernel_rfl) ?_ _
 have h1' := hH4
 clear h1 h2 hH2 hH3 hHeld bz RG RX lg lx hH4
 have h1 := h1'
 replace K0 := K0.ext h1; replace he := he.next h1; replace Bq0 := Bq0.ext h1; replace Bq1 := Bq1.ext h1; replace RY := hI (RY.out.ext h1); replace RW := hI (RW.out.ext h1); replace bx := bx.ext h1; replace BX := BX.ext h1; replace TX := hI (TX.out.ext h1); replace OW := hI (ownsRow_ext OW.out h1)
 clear h1 h1'
 have RX := hI BX.range
 go_wp2_with (refine wpList_load_mid rfl 27 _ rfl k5 0 rfl [.slice (some ⟨gx, 0, none⟩) d.files.length d.files.length] _ RX.out Tryz.underlying27 rfl (by kernel_rfl) ?_)
 have ob := Blk.ownsRow (xs := d.files.flatMap sone) bx d.files.length 1 0 (Nat.zero_le _) (by rw [flat_len sone 1 sone_length]) (by unfold maxLen; omega)
 refine (markDisk_row2 (k := 1) _ ob (by omega) (by omega)).mono ?_
 rintro e w13 ⟨rfl, f1⟩
 have NB := hI (show ∀ y, InBlock (.slice (some ⟨gx, 0, none⟩) d.files.length d.files.length) y → y = gx from fun y e => by simp [InBlock, Value.ownBlock] at e; omega)
 replace he : Ext w w13 := f1.toExt he (fun y hy e => by have := NB.out _ e; omega)
 replace K0 := f1.blk K0 (fun e => by have := NB.out _ e; omega); replace Bq0 := f1.blk Bq0 (fun e => by have := NB.out _ e; omega); replace Bq1 := f1.blk Bq1 (fun e => by have := NB.out _ e; omega); 
 replace RY := hI (RY.out.keep (f1.keep (fun y _ hy e => by have := NB.out _ e; omega)))
 replace RW := hI (RW.out.keep (f1.keep (fun y _ hy e => by have := NB.out _ e; omega)))
 have TX2 := hI (show BRows w6.heap.size w13 b _ _ _ _ _ from ⟨f1.own TX.out.e (fun y hy e => by have := NB.out _ e; have := (TX.out.e.lt _ hy).1; omega), f1.own TX.out.r (fun y hy e => by have := NB.out _ e; have := (TX.out.r.lt _ hy).1; omega), f1.own TX.out.h (fun y hy e => by have := NB.out _ e; have := (TX.out.h.lt _ hy).1; omega), f1.own TX.out.p (fun y hy e => by have := NB.out _ e; have := (TX.out.p.lt _ hy).1; omega), f1.own TX.out.q (fun y hy e => by have := NB.out _ e; have := (TX.out.q.lt _ hy).1; omega)⟩)
 have OW2 := hI (f1.own OW.out (fun y hy e => by have := NB.out _ e; have := (OW.out.lt _ hy).1; omega))
 clear f1 ob bx BX RX TX OW
 have TX := TX2; have OW := OW2
 clear TX2 OW2
 have q9 : (0 : Int) ≤ ((1 + d.files.length : Nat) : Int) := by omega
 have R1 := hI (Blk.range Bq1); have R0 := hI (Blk.range Bq0)
 go_wp2_with (first | (refine wpList_load_want (by rfl) 59 _ rfl q1 0 rfl [.int .i64 b.width, .slice X0 b.log.entries.length x0, .slice X1 b.receipts.length x1, .slice X2 b.heads.length x2, .int .i64 b.sealed.leaves.size, .slice X3 b.sealed.leaves.peaks.length x3, .int .i64 b.sealed.taken.size, .slice X4 b.sealed.taken.peaks.length x4, .int .i64 b.sealed.head.number, .int .i64 b.sealed.head.size, .string b.sealed.head.root, .int .i64 b.sealed.head.taken, .string b.sealed.head.takenRoot] _ R1.out Tryz.underlying59 rfl (by kernel_rfl) ?_) | (refine wpList_load_want (by rfl) 59 _ rfl q0 0 rfl [.int .i64 b.width, .slice Y0 b.log.entries.length y0, .slice Y1 b.receipts.length y1, .slice Y2 b.heads.length y2, .int .i64 b.sealed.leaves.size, .slice Y3 b.sealed.leaves.peaks.length y3, .int .i64 b.sealed.taken.size, .slice Y4 b.sealed.taken.peaks.length y4, .int .i64 b.sealed.head.number, .int .i64 b.sealed.head.size, .string b.sealed.head.root, .int .i64 b.sealed.head.taken, .string b.sealed.head.takenRoot] _ R0.out Tryz.underlying59 rfl (by kernel_rfl) ?_))
 refine (eqBroker_two TX.out.rd RY.out BL.out).mono ?_
 rintro e w14 ⟨rfl, h1⟩
 replace K0 := K0.ext h1; replace he := he.next h1; replace Bq0 := Bq0.ext h1; replace Bq1 := Bq1.ext h1; replace RY := hI (RY.out.ext h1); replace RW := hI (RW.out.ext h1); replace TX := hI (TX.out.ext h1); replace OW := hI (ownsRow_ext OW.out h1)
 clear h1 R0 R1
 go_wp2_with fail
 refine (eqWriteS_two OW.out RW.out.any wl).mono ?_
 rintro e w15 ⟨rfl, h1⟩
 replace K0 := K0.ext h1; replace he := he.next h1; replace Bq0 := Bq0.ext h1; replace Bq1 := Bq1.ext h1; replace RY := hI (RY.out.ext h1); replace RW := hI (RW.out.ext h1); replace TX := hI (TX.out.ext h1); replace OW := hI (ownsRow_ext OW.out h1)
 clear h1
 have R1 := hI (Blk.range Bq1)
 have MB := hI (markBroker_row (k := 1) w15 TX.out AP.out BN.out (by omega))
 simp only [brkCs] at MB
 go_wp2_with (refine wpList_load_mid rfl 59 _ rfl q1 0 rfl [.int .i64 b.width, .slice X0 b.log.entries.length x0, .slice X1 b.receipts.length x1, .slice X2 b.heads.length x2, .int .i64 b.sealed.leaves.size, .slice X3 b.sealed.leaves.peaks.length x3, .int .i64 b.sealed.taken.size, .slice X4 b.sealed.taken.peaks.length x4, .int .i64 b.sealed.head.number, .int .i64 b.sealed.head.size, .string b.sealed.head.root, .int .i64 b.sealed.head.taken, .string b.sealed.head.takenRoot] _ R1.out Tryz.underlying59 rfl (by kernel_rfl) ?_)
 refine MB.out.mono ?_
 rintro e w16 ⟨rfl, mk, f1⟩
 have LX2 := LX.out
 have LW2 := LW.out
 replace he : Ext w w16 := f1.toExt he (fun y hy e => by have := (LX2 _ e).1; omega)
 replace K0 := f1.blk K0 (fun e => by have := (LX2 _ e).1; omega); replace Bq0 := f1.blk Bq0 (fun e => by have := (LX2 _ e).1; omega); replace Bq1 := f1.blk Bq1 (fun e => by have := (LX2 _ e).2; omega)
 replace RY := hI (RY.out.keep (f1.keep (fun y _ hy e => by have := (LX2 _ e).1; omega)))
 replace RW := hI (RW.out.keep (f1.keep (fun y _ hy e => by have := (LX2 _ e).1; omega)))
 have OW2 := hI (f1.own OW.out (fun y hy e => AW.out y e hy))
 have MK := hI mk
 clear mk f1 MB R1 OW TX
 have OW := OW2
 clear OW2
 go_wp2_with fail
 refine (markWriteS_row (k := 1 + BrkN b) OW.out (by omega) (by omega)).mono ?_
 rintro e w17 ⟨rfl, mk, f1⟩
 replace he : Ext w w17 := f1.toExt he (fun y hy e => by have := (LW2 _ e).1; omega)
 replace K0 := f1.blk K0 (fun e => by have := (LW2 _ e).1; omega); replace Bq0 := f1.blk Bq0 (fun e => by have := (LW2 _ e).1; omega); replace Bq1 := f1.blk Bq1 (fun e => by have := (LW2 _ e).2; omega)
 replace RY := hI (RY.out.keep (f1.keep (fun y _ hy e => by have := (LW2 _ e).1; omega)))
 replace RW := hI (RW.out.keep (f1.keep (fun y _ hy e => by have := (LW2 _ e).1; omega)))
 replace MK := hI (MK.out.frm f1 (fun x hx e => AW.out x hx e))
 have MW := hI (show FMk WriteD.cells 3 WriteD.mkL w17 (.slice XW W.length xw) (1 + BrkN b) W.length from mk)
 clear mk f1 OW LX2 LW2
 obtain ⟨m1, hm1⟩ : ∃ m1, m1 = 1 + BrkN b := ⟨_, rfl⟩
 obtain ⟨m2, hm2⟩ : ∃ m2, m2 = m1 + W.length * 3 := ⟨_, rfl⟩
 have HB := hI (fun (u : World) (h : BMk u b (.slice X0 b.log.entries.length x0) (.slice X1 b.receipts.length x1) (.slice X2 b.heads.length x2) (.slice X3 b.sealed.leaves.peaks.length x3) (.slice X4 b.sealed.taken.peaks.length x4) 1) => heldBroker_row (k := 1) u h BN.out (by omega))
 have HWr := hI (fun (u : World) (h : FMk WriteD.cells 3 WriteD.mkL u (.slice XW W.length xw) (1 + BrkN b) W.length) => show Calls Tryz.prog 30 #[.slice XW W.length xw, .int .i64 ((1 + BrkN b : Nat) : Int)] u (fun e w' => e = .returned (.int .i64 ((1 + BrkN b + W.length * 3 : Nat) : Int)) ∧ Ext u w') by
  obtain ⟨A, c', e, s⟩ := h
  cases e
  exact heldWriteS_any XW W.length xw (1 + BrkN b) u s.reads (by omega) (by omega))
 rw [← hm1] at HB HWr MW
 rw [← hm2] at HWr
 rw [← hm1]
 rw [← hm2]
 have q10 : (0 : Int) ≤ (m1 : Int) := by omega
 have q11 : (0 : Int) ≤ (m2 : Int) := by omega
 have mne : ((m2 : Int) != (m2 : Int)) = false := by simp
 clear hm1 hm2
 have R1 := hI (Blk.range Bq1)
 go_wp2_with (refine wpList_load_mid rfl 59 _ rfl q1 0 rfl [.int .i64 b.width, .slice X0 b.log.entries.length x0, .slice X1 b.receipts.length x1, .slice X2 b.heads.length x2, .int .i64 b.sealed.leaves.size, .slice X3 b.sealed.leaves.peaks.length x3, .int .i64 b.sealed.taken.size, .slice X4 b.sealed.taken.peaks.length x4, .int .i64 b.sealed.head.number, .int .i64 b.sealed.head.size, .string b.sealed.head.root, .int .i64 b.sealed.head.taken, .string b.sealed.head.takenRoot] _ R1.out Tryz.underlying59 rfl (by kernel_rfl) ?_)
 refine (HB.out _ MK.out).mono ?_
 rintro e w18 ⟨rfl, h1⟩
 replace K0 := K0.ext h1; replace he := he.next h1; replace Bq0 := Bq0.ext h1; replace Bq1 := Bq1.ext h1; replace RY := hI (RY.out.ext h1); replace RW := hI (RW.out.ext h1); replace MK := hI (MK.out.ext h1); replace MW := hI (MW.out.ext h1)
 clear h1 R1
 go_wp2_with fail
 refine (HWr.out _ MW.out).mono ?_
 rintro e w19 ⟨rfl, h1⟩
 replace K0 := K0.ext h1; replace he := he.next h1; replace Bq0 := Bq0.ext h1; replace Bq1 := Bq1.ext h1; replace RY := hI (RY.out.ext h1); replace RW := hI (RW.out.ext h1); replace MK := hI (MK.out.ext h1); replace MW := hI (MW.out.ext h1)
 clear h1
 have RG := hI K0.range
 go_wp2_with (refine wpList_load_mid rfl 24 _ rfl g 0 rfl [.slice A0 d.files.length c0] _ RG.out Tryz.underlying24 rfl (by kernel_rfl) ?_)
 refine (toDisk_own d A0 c0 _ (S0.out.ext he) HF.out).mono ?_
 rintro e w20 ⟨gz, rfl, _, bz, h1⟩
 replace K0 := K0.ext h1; replace he := he.next h1; replace Bq0 := Bq0.ext h1; replace Bq1 := Bq1.ext h1; replace RY := hI (RY.out.ext h1); replace RW := hI (RW.out.ext h1); replace MK := hI (MK.out.ext h1); replace MW := hI (MW.out.ext h1)
 clear h1 RG
 go_wp2_with fail
 refine (IM.out gz _ bz).mono ?_
 rintro e w21 ⟨ve, vr, vh, v1, v2, vw, rfl, tz, _, oz, h1⟩
 replace K0 := K0.ext h1; replace he := he.next h1; replace Bq0 := Bq0.ext h1; replace Bq1 := Bq1.ext h1; replace RY := hI (RY.out.ext h1); replace RW := hI (RW.out.ext h1); replace MK := hI (MK.out.ext h1); replace MW := hI (MW.out.ext h1)
 clear h1 bz
 obtain ⟨Z0, z0, rfl, _⟩ := ownsRow_form tz.e
 obtain ⟨Z1, z1, rfl, _⟩ := ownsRow_form tz.r
 obtain ⟨Z2, z2, rfl, _⟩ := ownsRow_form tz.h
 obtain ⟨Z3, z3, rfl, _⟩ := ownsRow_form tz.p
 obtain ⟨Z4, z4, rfl, _⟩ := ownsRow_form tz.q
 obtain ⟨ZW, zw, rfl, _⟩ := ownsRow_form oz
 simp only [brkCs]
 have KZ := Blk.new w21 59 #[.int .i64 0, .slice none 0 0, .slice none 0 0, .slice none 0 0, .int .i64 0, .slice none 0 0, .int .i64 0, .slice none 0 0, .int .i64 0, .int .i64 0, .string ⟨#[]⟩, .int .i64 0, .string ⟨#[]⟩]
 obtain ⟨w22, hw, Bq2, hx⟩ : ∃ w22, w22 = (w21.alloc (.cells #[.int .i64 0, .slice none 0 0, .slice none 0 0, .slice none 0 0, .int .i64 0, .slice none 0 0, .int .i64 0, .slice none 0 0, .int .i64 0, .int .i64 0, .string ⟨#[]⟩, .int .i64 0, .string ⟨#[]⟩] 59)).setCells w21.heap.size 0 [.int .i64 b.width, .slice Z0 b.log.entries.length z0, .slice Z1 b.receipts.length z1, .slice Z2 b.heads.length z2, .int .i64 b.sealed.leaves.size, .slice Z3 b.sealed.leaves.peaks.length z3, .int .i64 b.sealed.taken.size, .slice Z4 b.sealed.taken.peaks.length z4, .int .i64 b.sealed.head.number, .int .i64 b.sealed.head.size, .string b.sealed.head.root, .int .i64 b.sealed.head.taken, .string b.sealed.head.takenRoot] ∧ Blk w22 w21.heap.size 59 #[.int .i64 b.width, .slice Z0 b.log.entries.length z0, .slice Z1 b.receipts.length z1, .slice Z2 b.heads.length z2, .int .i64 b.sealed.leaves.size, .slice Z3 b.sealed.leaves.peaks.length z3, .int .i64 b.sealed.taken.size, .slice Z4 b.sealed.taken.peaks.length z4, .int .i64 b.sealed.head.number, .int .i64 b.sealed.head.size, .string b.sealed.head.root, .int .i64 b.sealed.head.taken, .string b.sealed.head.takenRoot] ∧ Ext w21 w22 :=
  ⟨_, rfl, KZ.put 0 [.int .i64 b.width, .slice Z0 b.log.entries.length z0, .slice Z1 b.receipts.length z1, .slice Z2 b.heads.length z2, .int .i64 b.sealed.leaves.size, .slice Z3 b.sealed.leaves.peaks.length z3, .int .i64 b.sealed.taken.size, .slice Z4 b.sealed.taken.peaks.length z4, .int .i64 b.sealed.head.number, .int .i64 b.sealed.head.size, .string b.sealed.head.root, .int .i64 b.sealed.head.taken, .string b.sealed.head.takenRoot] #[.int .i64 b.width, .slice Z0 b.log.entries.length z0, .slice Z1 b.receipts.length z1, .slice Z2 b.heads.length z2, .int .i64 b.sealed.leaves.size, .slice Z3 b.sealed.leaves.peaks.length z3, .int .i64 b.sealed.taken.size, .slice Z4 b.sealed.taken.peaks.length z4, .int .i64 b.sealed.head.number, .int .i64 b.sealed.head.size, .string b.sealed.head.root, .int .i64 b.sealed.head.taken, .string b.sealed.head.takenRoot] (by simp) rfl, ext_setCells (W := w21) (g := w21.heap.size) (Nat.le_refl _) [.int .i64 b.width, .slice Z0 b.log.entries.length z0, .slice Z1 b.receipts.length z1, .slice Z2 b.heads.length z2, .int .i64 b.sealed.leaves.size, .slice Z3 b.sealed.leaves.peaks.length z3, .int .i64 b.sealed.taken.size, .slice Z4 b.sealed.taken.peaks.length z4, .int .i64 b.sealed.head.number, .int .i64 b.sealed.head.size, .string b.sealed.head.root, .int .i64 b.sealed.head.taken, .string b.sealed.head.takenRoot] 0 _ (Ext.new (Below.refl _ _) _)⟩
 have T4 := hI (KZ.there 0 13 (by simp)); have HW := hI hw
 replace K0 := K0.ext hx; replace he := he.next hx; replace Bq0 := Bq0.ext hx; replace Bq1 := Bq1.ext hx; replace RY := hI (RY.out.ext hx); replace RW := hI (RW.out.ext hx); replace MK := hI (MK.out.ext hx); replace MW := hI (MW.out.ext hx); have TZ := hI (tz.ext hx); have OZ := hI (ownsRow_ext oz hx)
 clear hw hx KZ
 go_upto_region 29 with (refine wpList_store_list rfl 59 _ _ rfl rfl w21.heap.size 0 [.int .i64 b.width, .slice Z0 b.log.entries.length z0, .slice Z1 b.receipts.length z1, .slice Z2 b.heads.length z2, .int .i64 b.sealed.leaves.size, .slice Z3 b.sealed.leaves.peaks.length z3, .int .i64 b.sealed.taken.size, .slice Z4 b.sealed.taken.peaks.length z4, .int .i64 b.sealed.head.number, .int .i64 b.sealed.head.size, .string b.sealed.head.root, .int .i64 b.sealed.head.taken, .string b.sealed.head.takenRoot] rfl rfl T4.out (by kernel_rfl) (by rfl) ?_; rw [← HW.out])
 obtain ⟨q2, hg⟩ : ∃ q2, q2 = w21.heap.size := ⟨_, rfl⟩
 rw [← hg] at Bq2
 rw [← hg]
 clear T4 HW
 clear tz oz hg
 have R1 := hI (Blk.range Bq2); have R0 := hI (Blk.range Bq0)
 go_wp2_with (first | (refine wpList_load_mid rfl 59 _ rfl q2 0 rfl [.int .i64 b.width, .slice Z0 b.log.entries.length z0, .slice Z1 b.receipts.length z1, .slice Z2 b.heads.length z2, .int .i64 b.sealed.leaves.size, .slice Z3 b.sealed.leaves.peaks.length z3, .int .i64 b.sealed.taken.size, .slice Z4 b.sealed.taken.peaks.length z4, .int .i64 b.sealed.head.number, .int .i64 b.sealed.head.size, .string b.sealed.head.root, .int .i64 b.sealed.head.taken, .string b.sealed.head.takenRoot] _ R1.out Tryz.underlying59 rfl (by kernel_rfl) ?_) | (refine wpList_load_mid rfl 59 _ rfl q0 0 rfl [.int .i64 b.width, .slice Y0 b.log.entries.length y0, .slice Y1 b.receipts.length y1, .slice Y2 b.heads.length y2, .int .i64 b.sealed.leaves.size, .slice Y3 b.sealed.leaves.peaks.length y3, .int .i64 b.sealed.taken.size, .slice Y4 b.sealed.taken.peaks.length y4, .int .i64 b.sealed.head.number, .int .i64 b.sealed.head.size, .string b.sealed.head.root, .int .i64 b.sealed.head.taken, .string b.sealed.head.takenRoot] _ R0.out Tryz.underlying59 rfl (by kernel_rfl) ?_))
 refine (eqBroker_two TZ.out.rd RY.out BL.out).mono ?_
 rintro e w23 ⟨rfl, h1⟩
 replace he := he.next h1; replace Bq1 := Bq1.ext h1; replace RW := hI (RW.out.ext h1); replace MK := hI (MK.out.ext h1); replace MW := hI (MW.out.ext h1); replace OZ := hI (ownsRow_ext OZ.out h1)
 clear h1 R0 R1 TZ RY K0 Bq0 Bq2
 go_wp2_with fail
 refine (eqWriteS_two OZ.out RW.out.any wl).mono ?_
 rintro e w24 ⟨rfl, h1⟩
 replace he := he.next h1; replace Bq1 := Bq1.ext h1; replace MK := hI (MK.out.ext h1); replace MW := hI (MW.out.ext h1)
 clear h1 OZ RW
 have R1 := hI (Blk.range Bq1)
 go_wp2_with (refine wpList_load_mid rfl 59 _ rfl q1 0 rfl [.int .i64 b.width, .slice X0 b.log.entries.length x0, .slice X1 b.receipts.length x1, .slice X2 b.heads.length x2, .int .i64 b.sealed.leaves.size, .slice X3 b.sealed.leaves.peaks.length x3, .int .i64 b.sealed.taken.size, .slice X4 b.sealed.taken.peaks.length x4, .int .i64 b.sealed.head.number, .int .i64 b.sealed.head.size, .string b.sealed.head.root, .int .i64 b.sealed.head.taken, .string b.sealed.head.takenRoot] _ R1.out Tryz.underlying59 rfl (by kernel_rfl) ?_)
 refine (HB.out _ MK.out).mono ?_
 rintro e w25 ⟨rfl, h1⟩
 replace he := he.next h1; replace MW := hI (MW.out.ext h1)
 clear h1 R1
 go_wp2_with fail
 refine (HWr.out _ MW.out).mono ?_
 rintro e w26 ⟨rfl, h1⟩
 replace he := he.next h1
 clear h1
 go_wp2_with fail
 go_ret
 exact ⟨rfl, he⟩
end Go.Proofs.YtlgdghpnfclgpaaGreat
