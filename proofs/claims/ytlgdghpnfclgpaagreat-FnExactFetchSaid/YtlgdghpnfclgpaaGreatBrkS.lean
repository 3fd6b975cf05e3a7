/-
  BrkS: No condition.
-/
import Derived.Test.YtlgdghpnfclgpaaGreatRecs2
import Derived.Test.YtlgdghpnfclgpaaGreatRecs
import Derived.Test.YtlgdghpnfclgpaaGreatHeadsOks
import Derived.Test.YtlgdghpnfclgpaaGreatNodeW
import Derived.Test.YtlgdghpnfclgpaaGreatLeafI
namespace Go.Proofs.YtlgdghpnfclgpaaGreat
set_option maxHeartbeats 40000000
set_option maxRecDepth 100000
set_option linter.unusedSimpArgs false
open Go.RowKit
set_option linter.unusedVariables false
theorem parts_split2 (b : BrokerD) : brkParts b = (inR b.width 1 32 && logOk b.log.entries && recsOk b.receipts && decide (0 < b.heads.length) && headsOk b.width b.heads && ((b.heads.headD hz).eqb (newH true b.width)) && allTo (sealAt b.width (leavesH b.width b.log.entries) (takenH b.width b.receipts) b.heads) b.heads.length && allTo (readAt b) b.receipts.length) := rfl
theorem no_parts {b : BrokerD} (h : brkParts b = false) : brokerB b = false := by rw [brokerB, h, Bool.false_and]
theorem last_head {l : List HeadD} {h : HeadD} (h0 : l[0]? = some h) : l.headD hz = h := by
 cases l with
 | nil => simp at h0
 | cons x r => simpa using h0
theorem blk_name {w : World} {g t : Nat} {cs : Array Value} (h : Blk w g t cs) : ∃ w6, w6 = w := ⟨w, rfl⟩
theorem run_pre {P : Program} {t : TypeId} (A : Option Addr) (len c m size : Nat) (ht : P.underlying t = some (.slice (P.elem t))) (hs : ∀ W : World, (sizeOf (P.elem t)).run P W = .ok size W) (hm : m ≤ c) {x : Int} (hx : x = (m : Int)) (W : World) :
 (Instr.slice t (.slice A len c) none (some (.int .i64 x)) none).run P W = .ok (.slice A m c) W := by
 subst hx
 rw [run_slice_h (P := P) W t A len c ht .i64 (m : Int) (by omega) (by omega), hs]
 simp [Result.andThen, sliced]
 intro _
 cases A with
 | none => rfl
 | some a => simp [Addr.add]
theorem l12Last_any (cs : List Value) (A : Option Addr) (c : Nat) (l : List HeadD) (w : World) (hl13 : cs.length = 13) (hc3 : cs[3]? = some (.slice A l.length c)) (hr : ReadsL w w.heap.size HeadD.cells 5 A l) (h0 : 0 < l.length) (hl : l.length ≤ 1048576) :
 Calls Tryz.prog 70 #[.agg cs.toArray] w fun e w' => e = .returned (.agg #[.int .i64 (lastH l).number, .int .i64 (lastH l).size, .string (lastH l).root, .int .i64 (lastH l).taken, .string (lastH l).takenRoot]) ∧ Ext w w' := by
 obtain ⟨h, hh⟩ : ∃ h, h = lastH l := ⟨_, rfl⟩
 have hl1 := last_at h0
 rw [← hh] at hl1
 rw [← hh]
 obtain ⟨b, off, rfl, hb, hc⟩ := Reads.at_ hr (k := l.length - 1) (by omega)
 obtain ⟨k, hk⟩ : ∃ k, k = l.length - 1 := ⟨_, rfl⟩
 obtain ⟨L, hL⟩ : ∃ L, L = l.length := ⟨_, rfl⟩
 have c0 := hc 0 _ (flat_at _ 5 HeadD.cells_length l _ 0 h hl1 (by omega))
 have c1 := hc 1 _ (flat_at _ 5 HeadD.cells_length l _ 1 h hl1 (by omega))
 have c2 := hc 2 _ (flat_at _ 5 HeadD.cells_length l _ 2 h hl1 (by omega))
 have c3 := hc 3 _ (flat_at _ 5 HeadD.cells_length l _ 3 h hl1 (by omega))
 have c4 := hc 4 _ (flat_at _ 5 HeadD.cells_length l _ 4 h hl1 (by omega))
 rw [Nat.add_zero] at c0
 rw [← hk] at c0 c1 c2 c3 c4
 rw [← hL] at hc3 h0 hl hk
 have e1 : (L : Int) - 1 = (k : Int) := by omega
 have e2 : IntKind.i64.wrap (k : Int) = (k : Int) := IntWalk.i64_in _ (by omega)
 have hkL : k < L := by omega
 clear hc hl1 hk hL hr hh h0
 have B0 := Blk.new w 59 cs.toArray
 have E0 := Ext.new (Below.refl w.heap.size w) (.cells cs.toArray 59)
 obtain ⟨w0, hw0⟩ : ∃ w0, w0 = w.alloc (.cells cs.toArray 59) := ⟨_, rfl⟩
 rw [← hw0] at B0 E0
 have K0 := Blk.new w0 55 #[.int .i64 0, .int .i64 0, .string ⟨#[]⟩, .int .i64 0, .string ⟨#[]⟩]
 have E1 := E0.new (.cells #[.int .i64 0, .int .i64 0, .string ⟨#[]⟩, .int .i64 0, .string ⟨#[]⟩] 55)
 have B1 := B0.alloc (.cells #[.int .i64 0, .int .i64 0, .string ⟨#[]⟩, .int .i64 0, .string ⟨#[]⟩] 55)
 have hs0 : w0.heap.size = w.heap.size + 1 := by rw [hw0]; simp
 have x3 : (w0.alloc (.cells #[.int .i64 0, .int .i64 0, .string ⟨#[]⟩, .int .i64 0, .string ⟨#[]⟩] 55)).cell? ⟨w.heap.size, 3, none⟩ = some (.slice (some ⟨b, off, none⟩) L c) := (B1.cell 3).trans (by simpa using hc3)
 have x0 := (E1.cell (p := ⟨b, off + k * 5, none⟩) hb).trans c0
 have x1 := (E1.cell (p := ⟨b, off + k * 5 + 1, none⟩) hb).trans c1
 have x2 := (E1.cell (p := ⟨b, off + k * 5 + 2, none⟩) hb).trans c2
 have x4 := (E1.cell (p := ⟨b, off + k * 5 + 3, none⟩) hb).trans c3
 have x5 := (E1.cell (p := ⟨b, off + k * 5 + 4, none⟩) hb).trans c4
 rw [hs0] at K0
 subst hw0
 have KH := hU K0; have EH := hU E1
 clear c0 c1 c2 c3 c4 hc3 K0 B0 E0 B1 E1 hs0
 obtain ⟨w4, hw4, b2, e3⟩ : ∃ w4, w4 = ((w.alloc (.cells cs.toArray 59)).alloc (.cells #[.int .i64 0, .int .i64 0, .string ⟨#[]⟩, .int .i64 0, .string ⟨#[]⟩] 55)).setCells (w.heap.size + 1) 0 [.int .i64 h.number, .int .i64 h.size, .string h.root, .int .i64 h.taken, .string h.takenRoot] ∧ Blk w4 (w.heap.size + 1) 55 #[.int .i64 h.number, .int .i64 h.size, .string h.root, .int .i64 h.taken, .string h.takenRoot] ∧ Ext w w4 :=
  ⟨_, rfl, KH.out.put 0 [.int .i64 h.number, .int .i64 h.size, .string h.root, .int .i64 h.taken, .string h.takenRoot] #[.int .i64 h.number, .int .i64 h.size, .string h.root, .int .i64 h.taken, .string h.takenRoot] (by simp) rfl, ext_setCells (W := w) (g := w.heap.size + 1) (by omega) [.int .i64 h.number, .int .i64 h.size, .string h.root, .int .i64 h.taken, .string h.takenRoot] 0 _ EH.out⟩
 have HW := hU hw4; have B2 := hU b2; have E3 := hU e3
 have T := hU (KH.out.there 0 5 (by simp))
 clear hw4 b2 e3 KH EH
 go_enter Tryz.func70, Tryz.ntmps70
 go_wp2_with (first | (refine wpList_store_list rfl 55 _ _ rfl rfl (w.heap.size + 1) 0 [.int .i64 h.number, .int .i64 h.size, .string h.root, .int .i64 h.taken, .string h.takenRoot] rfl rfl T.out (by kernel_rfl) (by rfl) ?_; rw [← HW.out]))
 exact ret_row rfl rfl B2.out Tryz.underlying55 rfl (by kernel_rfl) rfl ⟨rfl, E3.out⟩
theorem specBrokerOk_any (b : BrokerD) (A0 : Option Addr) (c0 : Nat) (A1 : Option Addr) (c1 : Nat) (A2 : Option Addr) (c2 : Nat) (A3 : Option Addr) (c3 : Nat) (A4 : Option Addr) (c4 : Nat) (w : World)
 (s0 : SlF AnyB EntryD.cells 5 w A0 b.log.entries c0) (s1 : SlF AnyB ReceiptD.cells 3 w A1 b.receipts c1) (s2 : SlF AnyB HeadD.cells 5 w A2 b.heads c2) (s3 : SlF AnyB sone 1 w A3 b.sealed.leaves.peaks c3) (s4 : SlF AnyB sone 1 w A4 b.sealed.taken.peaks c4) (ok0 : ∀ x ∈ b.log.entries, x.Ok) (ok1 : ∀ x ∈ b.receipts, x.Ok) (l3 : b.sealed.leaves.peaks.length ≤ 1048576) (l4 : b.sealed.taken.peaks.length ≤ 1048576) :
 Calls Tryz.prog 45 #[.agg (brkV b A0 c0 A1 c1 A2 c2 A3 c3 A4 c4).toArray] w fun e w' => e = .returned (.bool (brokerB b)) ∧ Ext w w' := by
 have K0 := hU (Blk.new w 59 (brkV b A0 c0 A1 c1 A2 c2 A3 c3 A4 c4).toArray)
 have HE := hU (Ext.new (Below.refl w.heap.size w) (.cells (brkV b A0 c0 A1 c1 A2 c2 A3 c3 A4 c4).toArray 59))
 have S0 := hU s0; have S1 := hU s1; have S2 := hU s2; have S3 := hU s3; have S4 := hU s4; have O0 := hU ok0; have O1 := hU ok1
 have l0 := s0.len; have l1 := s1.len; have l2 := s2.len
 unfold maxLen at l0 l1 l2
 have F := hU (parts_split2 b)
 obtain ⟨n0, hn0⟩ : ∃ n0, n0 = b.log.entries.length := ⟨_, rfl⟩
 obtain ⟨n1, hn1⟩ : ∃ n1, n1 = b.receipts.length := ⟨_, rfl⟩
 obtain ⟨n2, hn2⟩ : ∃ n2, n2 = b.heads.length := ⟨_, rfl⟩
 have LO := hU (fun (W : World) (hW : Ext w W) => specLogOk_any A0 c0 b.log.entries W (s0.ext hW) ok0)
 have RO := hU (fun (W : World) (hW : Ext w W) => l12ReceiptsOk_any A1 c1 b.receipts W (s1.ext hW) ok1)
 have HO := hU (fun (W : World) (hW : Ext w W) => specHeadsOk_any b.width A2 c2 b.heads W (s2.ext hW))
 rw [← hn0] at LO l0
 rw [← hn1] at RO l1 F
 rw [← hn2] at HO l2 F
 have N0 := hU hn0; have N1 := hU hn1; have N2 := hU hn2
 obtain ⟨cs, hcs⟩ : ∃ cs, cs = brkV b A0 c0 A1 c1 A2 c2 A3 c3 A4 c4 := ⟨_, rfl⟩
 have BH : ∀ (W : World) (g : Nat), Blk W g 59 cs.toArray → W.cell? ⟨g, 0, none⟩ = some (.int .i64 b.width) ∧ W.cell? ⟨g, 1, none⟩ = some (.slice A0 n0 c0) ∧ W.cell? ⟨g, 2, none⟩ = some (.slice A1 n1 c1) ∧ W.cell? ⟨g, 3, none⟩ = some (.slice A2 n2 c2) := fun W g h => by
  rw [hcs] at h
  rw [hn0, hn1, hn2]
  exact ⟨h.cell 0, h.cell 1, h.cell 2, h.cell 3⟩
 have BH := hU BH
 rw [← hcs] at K0 HE
 rw [← hcs]
 have HCS := hU hcs
 clear s0 s1 s2 s3 s4 ok0 ok1 hn0 hn1 hn2 hcs
 obtain ⟨x0, x1, x2, x3⟩ := BH.out _ _ K0.out
 obtain ⟨HN, hHN⟩ : ∃ HN, HN = newH (inR b.width 1 32) b.width := ⟨_, rfl⟩
 have NW := hU (fun W => specHeadNew_any b.width W)
 rw [← hHN] at NW
 have HHN := hU hHN
 clear hHN
 obtain ⟨fin, hfin⟩ : ∃ fin, fin = brokerB b := ⟨_, rfl⟩
 have FN := hU hfin
 rw [← hfin]
 clear hfin
 go_enter Tryz.func45, Tryz.ntmps45
 go_wp2_with fail
 obtain ⟨g, hg⟩ : ∃ g, g = w.heap.size := ⟨_, rfl⟩
 rw [← hg] at K0 x0 x1 x2 x3
 rw [← hg]
 have Hg := hU hg
 clear hg
 generalize w.alloc (.cells cs.toArray 59) = w1 at *
 refine (NW.out _).mono ?_
 rintro e w2 ⟨rfl, h1⟩
 have k0 := K0.out.ext h1
 have he := HE.out.next h1
 clear h1 K0 HE x0 x1 x2 x3 NW
 go_upto_region 2 with fail
 have kp := Blk.new w2 55 #[.int .i64 HN.number, .int .i64 HN.size, .string HN.root, .int .i64 HN.taken, .string HN.takenRoot]
 have hx := Ext.new (Below.refl w2.heap.size w2) (.cells #[.int .i64 HN.number, .int .i64 HN.size, .string HN.root, .int .i64 HN.taken, .string HN.takenRoot] 55)
 replace k0 := k0.ext hx; replace he := he.next hx
 obtain ⟨p3, hp3⟩ : ∃ p3, p3 = w2.heap.size := ⟨_, rfl⟩
 rw [← hp3] at kp
 rw [← hp3]
 clear hp3 hx
 generalize w2.alloc (.cells #[.int .i64 HN.number, .int .i64 HN.size, .string HN.root, .int .i64 HN.taken, .string HN.takenRoot] 55) = w3 at *
 refine wp_region_held_drew (S := fun w' => Blk w' g 59 cs.toArray ∧ Blk w' p3 55 #[.int .i64 HN.number, .int .i64 HN.size, .string HN.root, .int .i64 HN.taken, .string HN.takenRoot] ∧ Ext w w') (by kernel_rfl) ⟨k0.drew, kp.drew, he.drew⟩ (fun hH => ?_)
 clear k0 kp he
 cases p1 : inR b.width 1 32
 · skip
   refine takeQ 0 (.bool false) (some 21) rfl rfl (by kernel_rfl) (Or.inl ⟨by rfl, ?yr2a1⟩) hH ?rr2a1
   case yr2a1 => intro w' hS'; go_simp; try with_reducible rfl
   try simp only [zA]
   refine takeQ 1 (.bool true) (some 22) rfl rfl (by kernel_rfl) (Or.inl ⟨by rfl, ?yr2a2⟩) hH ?rr2a2
   case yr2a2 => intro w' hS'; go_simp; try with_reducible rfl
   try simp only [zA]
   refine takeQ 2 (.bool true) (some 23) rfl rfl (by kernel_rfl) (Or.inl ⟨by rfl, ?yr2a3⟩) hH ?rr2a3
   case yr2a3 => intro w' hS'; go_simp; try with_reducible rfl
   try simp only [zA]
   refine takeQ 3 (undef) (some 24) rfl rfl (by kernel_rfl) (Or.inr ⟨by go_simp; try (intro h; cases h), rfl⟩) hH ?rr2a4
   try simp only [zB]
   refine takeQ 4 (undef) (some 25) rfl rfl (by kernel_rfl) (Or.inr ⟨by go_simp; try (intro h; cases h), rfl⟩) hH ?rr2a5
   try simp only [zB]
   refine takeQ 5 (undef) (some 26) rfl rfl (by kernel_rfl) (Or.inr ⟨by go_simp; try (intro h; cases h), rfl⟩) hH ?rr2a6
   try simp only [zB]
   refine takeQ 6 (undef) (some 27) rfl rfl (by kernel_rfl) (Or.inr ⟨by go_simp; try (intro h; cases h), rfl⟩) hH ?rr2a7
   try simp only [zB]
   refine takeQ 7 (.bool true) (some 28) rfl rfl (by kernel_rfl) (Or.inl ⟨by rfl, ?yr2a8⟩) hH ?rr2a8
   case yr2a8 => intro w' hS'; go_simp; try with_reducible rfl
   try simp only [zA]
   refine takeQ 8 (.bool true) (some 29) rfl rfl (by kernel_rfl) (Or.inl ⟨by rfl, ?yr2a9⟩) hH ?rr2a9
   case yr2a9 => intro w' hS'; go_simp; try with_reducible rfl
   try simp only [zA]
   refine takeQ 9 (undef) (some 30) rfl rfl (by kernel_rfl) (Or.inr ⟨by go_simp; try (intro h; cases h), rfl⟩) hH ?rr2a10
   try simp only [zB]
   refine takeQ 10 (undef) (some 31) rfl rfl (by kernel_rfl) (Or.inr ⟨by go_simp; try (intro h; cases h), rfl⟩) hH ?rr2a11
   try simp only [zB]
   refine takeQ 11 (undef) (some 32) rfl rfl (by kernel_rfl) (Or.inr ⟨by go_simp; try (intro h; cases h), rfl⟩) hH ?rr2a12
   try simp only [zB]
   refine takeQ 12 (undef) (some 33) rfl rfl (by kernel_rfl) (Or.inr ⟨by go_simp; try (intro h; cases h), rfl⟩) hH ?rr2a13
   try simp only [zB]
   refine takeQ 13 (.bool true) (some 34) rfl rfl (by kernel_rfl) (Or.inl ⟨by rfl, ?yr2a14⟩) hH ?rr2a14
   case yr2a14 => intro w' hS'; go_simp; try with_reducible rfl
   try simp only [zA]
   refine takeQ 14 (.bool true) (some 35) rfl rfl (by kernel_rfl) (Or.inl ⟨by rfl, ?yr2a15⟩) hH ?rr2a15
   case yr2a15 => intro w' hS'; go_simp; try with_reducible rfl
   try simp only [zA]
   refine takeQ 15 (undef) (some 36) rfl rfl (by kernel_rfl) (Or.inr ⟨by go_simp; try (intro h; cases h), rfl⟩) hH ?rr2a16
   try simp only [zB]
   refine takeQ 16 (undef) (some 37) rfl rfl (by kernel_rfl) (Or.inr ⟨by go_simp; try (intro h; cases h), rfl⟩) hH ?rr2a17
   try simp only [zB]
   refine takeQ 17 (undef) (some 38) rfl rfl (by kernel_rfl) (Or.inr ⟨by go_simp; try (intro h; cases h), rfl⟩) hH ?rr2a18
   try simp only [zB]
   refine takeQ 18 (undef) (some 39) rfl rfl (by kernel_rfl) (Or.inr ⟨by go_simp; try (intro h; cases h), rfl⟩) hH ?rr2a19
   try simp only [zB]
   refine takeQ 19 (.bool true) (some 40) rfl rfl (by kernel_rfl) (Or.inl ⟨by rfl, ?yr2a20⟩) hH ?rr2a20
   case yr2a20 => intro w' hS'; go_simp; try with_reducible rfl
   try simp only [zA]
   refine takeQ 20 (.bool true) (some 41) rfl rfl (by kernel_rfl) (Or.inl ⟨by rfl, ?yr2a21⟩) hH ?rr2a21
   case yr2a21 => intro w' hS'; go_simp; try with_reducible rfl
   try simp only [zA]
   refine takeQ 21 (undef) (some 42) rfl rfl (by kernel_rfl) (Or.inr ⟨by go_simp; try (intro h; cases h), rfl⟩) hH ?rr2a22
   try simp only [zB]
   refine takeQ 22 (undef) (some 43) rfl rfl (by kernel_rfl) (Or.inr ⟨by go_simp; try (intro h; cases h), rfl⟩) hH ?rr2a23
   try simp only [zB]
   refine takeQ 23 (undef) (some 44) rfl rfl (by kernel_rfl) (Or.inr ⟨by go_simp; try (intro h; cases h), rfl⟩) hH ?rr2a24
   try simp only [zB]
   refine takeQ 24 (undef) (some 45) rfl rfl (by kernel_rfl) (Or.inr ⟨by go_simp; try (intro h; cases h), rfl⟩) hH ?rr2a25
   try simp only [zB]
   refine takeQ 25 (undef) (some 46) rfl rfl (by kernel_rfl) (Or.inr ⟨by go_simp; try (intro h; cases h), rfl⟩) hH ?rr2a26
   try simp only [zB]
   refine takeQ 26 (undef) (some 47) rfl rfl (by kernel_rfl) (Or.inr ⟨by go_simp; try (intro h; cases h), rfl⟩) hH ?rr2a27
   try simp only [zB]
   refine takeQ 27 (.bool true) (some 48) rfl rfl (by kernel_rfl) (Or.inl ⟨by rfl, ?yr2a28⟩) hH ?rr2a28
   case yr2a28 => intro w' hS'; go_simp; try with_reducible rfl
   try simp only [zA]
   refine takeQ 28 (.bool true) (some 49) rfl rfl (by kernel_rfl) (Or.inl ⟨by rfl, ?yr2a29⟩) hH ?rr2a29
   case yr2a29 => intro w' hS'; go_simp; try with_reducible rfl
   try simp only [zA]
   refine takeQ 29 (undef) (some 50) rfl rfl (by kernel_rfl) (Or.inr ⟨by go_simp; try (intro h; cases h), rfl⟩) hH ?rr2a30
   try simp only [zB]
   refine takeQ 30 (undef) (some 51) rfl rfl (by kernel_rfl) (Or.inr ⟨by go_simp; try (intro h; cases h), rfl⟩) hH ?rr2a31
   try simp only [zB]
   refine takeQ 31 (undef) (some 52) rfl rfl (by kernel_rfl) (Or.inr ⟨by go_simp; try (intro h; cases h), rfl⟩) hH ?rr2a32
   try simp only [zB]
   refine takeQ 32 (undef) (some 53) rfl rfl (by kernel_rfl) (Or.inr ⟨by go_simp; try (intro h; cases h), rfl⟩) hH ?rr2a33
   try simp only [zB]
   refine takeQ 33 (undef) (some 54) rfl rfl (by kernel_rfl) (Or.inr ⟨by go_simp; try (intro h; cases h), rfl⟩) hH ?rr2a34
   try simp only [zB]
   refine takeQ 34 (undef) (some 55) rfl rfl (by kernel_rfl) (Or.inr ⟨by go_simp; try (intro h; cases h), rfl⟩) hH ?rr2a35
   try simp only [zB]
   refine takeQ 35 (.bool true) (some 56) rfl rfl (by kernel_rfl) (Or.inl ⟨by rfl, ?yr2a36⟩) hH ?rr2a36
   case yr2a36 => intro w' hS'; go_simp; try with_reducible rfl
   try simp only [zA]
   have E := hU (show fin = false by rw [FN.out]; exact no_parts (by rw [F.out, p1]; rfl))
   have HE := hU hH.2.2
   clear hH
   refine wpAnyH_done (by kernel_rfl) ?_ _
   go_wp2_with fail
   go_ret
   exact ⟨ret_bool E.out.symm, HE.out⟩
 · have hwd := p1
   refine takeQ 0 (.bool true) (some 21) rfl rfl (by kernel_rfl) (Or.inl ⟨by rfl, ?yr2b1⟩) hH ?rr2b1
   case yr2b1 => intro w' hS'; go_simp; try with_reducible rfl
   try simp only [zA]
   refine takeQ 1 (.bool false) (some 22) rfl rfl (by kernel_rfl) (Or.inl ⟨by rfl, ?yr2b2⟩) hH ?rr2b2
   case yr2b2 => intro w' hS'; go_simp; try with_reducible rfl
   try simp only [zA]
   refine takeQ 2 (.bool false) (some 23) rfl rfl (by kernel_rfl) (Or.inl ⟨by rfl, ?yr2b3⟩) hH ?rr2b3
   case yr2b3 => intro w' hS'; go_simp; try with_reducible rfl
   try simp only [zA]
   refine takeQ 3 (.pointer (some ⟨g, 1, none⟩)) (some 24) rfl rfl (by kernel_rfl) (Or.inl ⟨by rfl, ?yr2b4⟩) hH ?rr2b4
   case yr2b4 => intro w' hS'; go_simp; try with_reducible rfl
   try simp only [zA]
   refine takeQ 4 (.agg #[.slice A0 n0 c0]) (some 25) rfl rfl (by kernel_rfl) (Or.inl ⟨by rfl, ?yr2b5⟩) hH ?rr2b5
   case yr2b5 => intro w' hS'; obtain ⟨s0, s1, s2⟩ := hS'; obtain ⟨x0, x1, x2, x3⟩ := BH.out _ _ s0; obtain ⟨r1, f1⟩ := s1.rules; go_simp; try with_reducible rfl
   try simp only [zA]
   refine oneHw 5 (oi := _) (some 26) (by kernel_rfl) rfl (by rfl) rfl (fun K' hK => ?_)
   refine ⟨?_⟩
   rw [if_pos (by rfl)]
   go_simp
   refine (LO.out _ hH.2.2).mono ?_
   rintro e wa ⟨rfl, h1⟩
   refine hK.out _ _ ⟨_, rfl⟩ (⟨hH.1.ext h1, hH.2.1.ext h1, hH.2.2.next h1⟩) (fun hH2 => ?_)
   clear hK K' hH h1
   have hH := hH2
   clear hH2
   try simp only [zB]
   cases p2 : logOk b.log.entries
   · skip
     refine takeQ 6 (.bool true) (some 27) rfl rfl (by kernel_rfl) (Or.inl ⟨by rfl, ?yr2ba1⟩) hH ?rr2ba1
     case yr2ba1 => intro w' hS'; go_simp; try with_reducible rfl
     try simp only [zA]
     refine takeQ 7 (.bool true) (some 28) rfl rfl (by kernel_rfl) (Or.inl ⟨by rfl, ?yr2ba2⟩) hH ?rr2ba2
     case yr2ba2 => intro w' hS'; go_simp; try with_reducible rfl
     try simp only [zA]
     refine takeQ 8 (.bool true) (some 29) rfl rfl (by kernel_rfl) (Or.inl ⟨by rfl, ?yr2ba3⟩) hH ?rr2ba3
     case yr2ba3 => intro w' hS'; go_simp; try with_reducible rfl
     try simp only [zA]
     refine takeQ 9 (undef) (some 30) rfl rfl (by kernel_rfl) (Or.inr ⟨by go_simp; try (intro h; cases h), rfl⟩) hH ?rr2ba4
     try simp only [zB]
     refine takeQ 10 (undef) (some 31) rfl rfl (by kernel_rfl) (Or.inr ⟨by go_simp; try (intro h; cases h), rfl⟩) hH ?rr2ba5
     try simp only [zB]
     refine takeQ 11 (undef) (some 32) rfl rfl (by kernel_rfl) (Or.inr ⟨by go_simp; try (intro h; cases h), rfl⟩) hH ?rr2ba6
     try simp only [zB]
     refine takeQ 12 (undef) (some 33) rfl rfl (by kernel_rfl) (Or.inr ⟨by go_simp; try (intro h; cases h), rfl⟩) hH ?rr2ba7
     try simp only [zB]
     refine takeQ 13 (.bool true) (some 34) rfl rfl (by kernel_rfl) (Or.inl ⟨by rfl, ?yr2ba8⟩) hH ?rr2ba8
     case yr2ba8 => intro w' hS'; go_simp; try with_reducible rfl
     try simp only [zA]
     refine takeQ 14 (.bool true) (some 35) rfl rfl (by kernel_rfl) (Or.inl ⟨by rfl, ?yr2ba9⟩) hH ?rr2ba9
     case yr2ba9 => intro w' hS'; go_simp; try with_reducible rfl
     try simp only [zA]
     refine takeQ 15 (undef) (some 36) rfl rfl (by kernel_rfl) (Or.inr ⟨by go_simp; try (intro h; cases h), rfl⟩) hH ?rr2ba10
     try simp only [zB]
     refine takeQ 16 (undef) (some 37) rfl rfl (by kernel_rfl) (Or.inr ⟨by go_simp; try (intro h; cases h), rfl⟩) hH ?rr2ba11
     try simp only [zB]
     refine takeQ 17 (undef) (some 38) rfl rfl (by kernel_rfl) (Or.inr ⟨by go_simp; try (intro h; cases h), rfl⟩) hH ?rr2ba12
     try simp only [zB]
     refine takeQ 18 (undef) (some 39) rfl rfl (by kernel_rfl) (Or.inr ⟨by go_simp; try (intro h; cases h), rfl⟩) hH ?rr2ba13
     try simp only [zB]
     refine takeQ 19 (.bool true) (some 40) rfl rfl (by kernel_rfl) (Or.inl ⟨by rfl, ?yr2ba14⟩) hH ?rr2ba14
     case yr2ba14 => intro w' hS'; go_simp; try with_reducible rfl
     try simp only [zA]
     refine takeQ 20 (.bool true) (some 41) rfl rfl (by kernel_rfl) (Or.inl ⟨by rfl, ?yr2ba15⟩) hH ?rr2ba15
     case yr2ba15 => intro w' hS'; go_simp; try with_reducible rfl
     try simp only [zA]
     refine takeQ 21 (undef) (some 42) rfl rfl (by kernel_rfl) (Or.inr ⟨by go_simp; try (intro h; cases h), rfl⟩) hH ?rr2ba16
     try simp only [zB]
     refine takeQ 22 (undef) (some 43) rfl rfl (by kernel_rfl) (Or.inr ⟨by go_simp; try (intro h; cases h), rfl⟩) hH ?rr2ba17
     try simp only [zB]
     refine takeQ 23 (undef) (some 44) rfl rfl (by kernel_rfl) (Or.inr ⟨by go_simp; try (intro h; cases h), rfl⟩) hH ?rr2ba18
     try simp only [zB]
     refine takeQ 24 (undef) (some 45) rfl rfl (by kernel_rfl) (Or.inr ⟨by go_simp; try (intro h; cases h), rfl⟩) hH ?rr2ba19
     try simp only [zB]
     refine takeQ 25 (undef) (some 46) rfl rfl (by kernel_rfl) (Or.inr ⟨by go_simp; try (intro h; cases h), rfl⟩) hH ?rr2ba20
     try simp only [zB]
     refine takeQ 26 (undef) (some 47) rfl rfl (by kernel_rfl) (Or.inr ⟨by go_simp; try (intro h; cases h), rfl⟩) hH ?rr2ba21
     try simp only [zB]
     refine takeQ 27 (.bool true) (some 48) rfl rfl (by kernel_rfl) (Or.inl ⟨by rfl, ?yr2ba22⟩) hH ?rr2ba22
     case yr2ba22 => intro w' hS'; go_simp; try with_reducible rfl
     try simp only [zA]
     refine takeQ 28 (.bool true) (some 49) rfl rfl (by kernel_rfl) (Or.inl ⟨by rfl, ?yr2ba23⟩) hH ?rr2ba23
     case yr2ba23 => intro w' hS'; go_simp; try with_reducible rfl
     try simp only [zA]
     refine takeQ 29 (undef) (some 50) rfl rfl (by kernel_rfl) (Or.inr ⟨by go_simp; try (intro h; cases h), rfl⟩) hH ?rr2ba24
     try simp only [zB]
     refine takeQ 30 (undef) (some 51) rfl rfl (by kernel_rfl) (Or.inr ⟨by go_simp; try (intro h; cases h), rfl⟩) hH ?rr2ba25
     try simp only [zB]
     refine takeQ 31 (undef) (some 52) rfl rfl (by kernel_rfl) (Or.inr ⟨by go_simp; try (intro h; cases h), rfl⟩) hH ?rr2ba26
     try simp only [zB]
     refine takeQ 32 (undef) (some 53) rfl rfl (by kernel_rfl) (Or.inr ⟨by go_simp; try (intro h; cases h), rfl⟩) hH ?rr2ba27
     try simp only [zB]
     refine takeQ 33 (undef) (some 54) rfl rfl (by kernel_rfl) (Or.inr ⟨by go_simp; try (intro h; cases h), rfl⟩) hH ?rr2ba28
     try simp only [zB]
     refine takeQ 34 (undef) (some 55) rfl rfl (by kernel_rfl) (Or.inr ⟨by go_simp; try (intro h; cases h), rfl⟩) hH ?rr2ba29
     try simp only [zB]
     refine takeQ 35 (.bool true) (some 56) rfl rfl (by kernel_rfl) (Or.inl ⟨by rfl, ?yr2ba30⟩) hH ?rr2ba30
     case yr2ba30 => intro w' hS'; go_simp; try with_reducible rfl
     try simp only [zA]
     have E := hU (show fin = false by rw [FN.out]; exact no_parts (by rw [F.out, p1, p2]; rfl))
     have HE := hU hH.2.2
     clear hH
     refine wpAnyH_done (by kernel_rfl) ?_ _
     go_wp2_with fail
     go_ret
     exact ⟨ret_bool E.out.symm, HE.out⟩
   · skip
     refine takeQ 6 (.bool false) (some 27) rfl rfl (by kernel_rfl) (Or.inl ⟨by rfl, ?yr2bb1⟩) hH ?rr2bb1
     case yr2bb1 => intro w' hS'; go_simp; try with_reducible rfl
     try simp only [zA]
     refine takeQ 7 (.bool false) (some 28) rfl rfl (by kernel_rfl) (Or.inl ⟨by rfl, ?yr2bb2⟩) hH ?rr2bb2
     case yr2bb2 => intro w' hS'; go_simp; try with_reducible rfl
     try simp only [zA]
     refine takeQ 8 (.bool false) (some 29) rfl rfl (by kernel_rfl) (Or.inl ⟨by rfl, ?yr2bb3⟩) hH ?rr2bb3
     case yr2bb3 => intro w' hS'; go_simp; try with_reducible rfl
     try simp only [zA]
     refine takeQ 9 (.pointer (some ⟨g, 2, none⟩)) (some 30) rfl rfl (by kernel_rfl) (Or.inl ⟨by rfl, ?yr2bb4⟩) hH ?rr2bb4
     case yr2bb4 => intro w' hS'; go_simp; try with_reducible rfl
     try simp only [zA]
     refine takeQ 10 (.slice A1 n1 c1) (some 31) rfl rfl (by kernel_rfl) (Or.inl ⟨by rfl, ?yr2bb5⟩) hH ?rr2bb5
     case yr2bb5 => intro w' hS'; obtain ⟨s0, s1, s2⟩ := hS'; obtain ⟨x0, x1, x2, x3⟩ := BH.out _ _ s0; obtain ⟨r1, f1⟩ := s1.rules; go_simp; try with_reducible rfl
     try simp only [zA]
     refine oneHw 11 (oi := _) (some 32) (by kernel_rfl) rfl (by rfl) rfl (fun K' hK => ?_)
     refine ⟨?_⟩
     rw [if_pos (by rfl)]
     go_simp
     refine (RO.out _ hH.2.2).mono ?_
     rintro e wb ⟨rfl, h1⟩
     refine hK.out _ _ ⟨_, rfl⟩ (⟨hH.1.ext h1, hH.2.1.ext h1, hH.2.2.next h1⟩) (fun hH2 => ?_)
     clear hK K' hH h1
     have hH := hH2
     clear hH2
     try simp only [zB]
     cases p3' : recsOk b.receipts
     · skip
       refine takeQ 12 (.bool true) (some 33) rfl rfl (by kernel_rfl) (Or.inl ⟨by rfl, ?yr2bba1⟩) hH ?rr2bba1
       case yr2bba1 => intro w' hS'; go_simp; try with_reducible rfl
       try simp only [zA]
       refine takeQ 13 (.bool true) (some 34) rfl rfl (by kernel_rfl) (Or.inl ⟨by rfl, ?yr2bba2⟩) hH ?rr2bba2
       case yr2bba2 => intro w' hS'; go_simp; try with_reducible rfl
       try simp only [zA]
       refine takeQ 14 (.bool true) (some 35) rfl rfl (by kernel_rfl) (Or.inl ⟨by rfl, ?yr2bba3⟩) hH ?rr2bba3
       case yr2bba3 => intro w' hS'; go_simp; try with_reducible rfl
       try simp only [zA]
       refine takeQ 15 (undef) (some 36) rfl rfl (by kernel_rfl) (Or.inr ⟨by go_simp; try (intro h; cases h), rfl⟩) hH ?rr2bba4
       try simp only [zB]
       refine takeQ 16 (undef) (some 37) rfl rfl (by kernel_rfl) (Or.inr ⟨by go_simp; try (intro h; cases h), rfl⟩) hH ?rr2bba5
       try simp only [zB]
       refine takeQ 17 (undef) (some 38) rfl rfl (by kernel_rfl) (Or.inr ⟨by go_simp; try (intro h; cases h), rfl⟩) hH ?rr2bba6
       try simp only [zB]
       refine takeQ 18 (undef) (some 39) rfl rfl (by kernel_rfl) (Or.inr ⟨by go_simp; try (intro h; cases h), rfl⟩) hH ?rr2bba7
       try simp only [zB]
       refine takeQ 19 (.bool true) (some 40) rfl rfl (by kernel_rfl) (Or.inl ⟨by rfl, ?yr2bba8⟩) hH ?rr2bba8
       case yr2bba8 => intro w' hS'; go_simp; try with_reducible rfl
       try simp only [zA]
       refine takeQ 20 (.bool true) (some 41) rfl rfl (by kernel_rfl) (Or.inl ⟨by rfl, ?yr2bba9⟩) hH ?rr2bba9
       case yr2bba9 => intro w' hS'; go_simp; try with_reducible rfl
       try simp only [zA]
       refine takeQ 21 (undef) (some 42) rfl rfl (by kernel_rfl) (Or.inr ⟨by go_simp; try (intro h; cases h), rfl⟩) hH ?rr2bba10
       try simp only [zB]
       refine takeQ 22 (undef) (some 43) rfl rfl (by kernel_rfl) (Or.inr ⟨by go_simp; try (intro h; cases h), rfl⟩) hH ?rr2bba11
       try simp only [zB]
       refine takeQ 23 (undef) (some 44) rfl rfl (by kernel_rfl) (Or.inr ⟨by go_simp; try (intro h; cases h), rfl⟩) hH ?rr2bba12
       try simp only [zB]
       refine takeQ 24 (undef) (some 45) rfl rfl (by kernel_rfl) (Or.inr ⟨by go_simp; try (intro h; cases h), rfl⟩) hH ?rr2bba13
       try simp only [zB]
       refine takeQ 25 (undef) (some 46) rfl rfl (by kernel_rfl) (Or.inr ⟨by go_simp; try (intro h; cases h), rfl⟩) hH ?rr2bba14
       try simp only [zB]
       refine takeQ 26 (undef) (some 47) rfl rfl (by kernel_rfl) (Or.inr ⟨by go_simp; try (intro h; cases h), rfl⟩) hH ?rr2bba15
       try simp only [zB]
       refine takeQ 27 (.bool true) (some 48) rfl rfl (by kernel_rfl) (Or.inl ⟨by rfl, ?yr2bba16⟩) hH ?rr2bba16
       case yr2bba16 => intro w' hS'; go_simp; try with_reducible rfl
       try simp only [zA]
       refine takeQ 28 (.bool true) (some 49) rfl rfl (by kernel_rfl) (Or.inl ⟨by rfl, ?yr2bba17⟩) hH ?rr2bba17
       case yr2bba17 => intro w' hS'; go_simp; try with_reducible rfl
       try simp only [zA]
       refine takeQ 29 (undef) (some 50) rfl rfl (by kernel_rfl) (Or.inr ⟨by go_simp; try (intro h; cases h), rfl⟩) hH ?rr2bba18
       try simp only [zB]
       refine takeQ 30 (undef) (some 51) rfl rfl (by kernel_rfl) (Or.inr ⟨by go_simp; try (intro h; cases h), rfl⟩) hH ?rr2bba19
       try simp only [zB]
       refine takeQ 31 (undef) (some 52) rfl rfl (by kernel_rfl) (Or.inr ⟨by go_simp; try (intro h; cases h), rfl⟩) hH ?rr2bba20
       try simp only [zB]
       refine takeQ 32 (undef) (some 53) rfl rfl (by kernel_rfl) (Or.inr ⟨by go_simp; try (intro h; cases h), rfl⟩) hH ?rr2bba21
       try simp only [zB]
       refine takeQ 33 (undef) (some 54) rfl rfl (by kernel_rfl) (Or.inr ⟨by go_simp; try (intro h; cases h), rfl⟩) hH ?rr2bba22
       try simp only [zB]
       refine takeQ 34 (undef) (some 55) rfl rfl (by kernel_rfl) (Or.inr ⟨by go_simp; try (intro h; cases h), rfl⟩) hH ?rr2bba23
       try simp only [zB]
       refine takeQ 35 (.bool true) (some 56) rfl rfl (by kernel_rfl) (Or.inl ⟨by rfl, ?yr2bba24⟩) hH ?rr2bba24
       case yr2bba24 => intro w' hS'; go_simp; try with_reducible rfl
       try simp only [zA]
       have E := hU (show fin = false by rw [FN.out]; exact no_parts (by rw [F.out, p1, p2, p3']; rfl))
       have HE := hU hH.2.2
       clear hH
       refine wpAnyH_done (by kernel_rfl) ?_ _
       go_wp2_with fail
       go_ret
       exact ⟨ret_bool E.out.symm, HE.out⟩
     · skip
       refine takeQ 12 (.bool false) (some 33) rfl rfl (by kernel_rfl) (Or.inl ⟨by rfl, ?yr2bbb1⟩) hH ?rr2bbb1
       case yr2bbb1 => intro w' hS'; go_simp; try with_reducible rfl
       try simp only [zA]
       refine takeQ 13 (.bool false) (some 34) rfl rfl (by kernel_rfl) (Or.inl ⟨by rfl, ?yr2bbb2⟩) hH ?rr2bbb2
       case yr2bbb2 => intro w' hS'; go_simp; try with_reducible rfl
       try simp only [zA]
       refine takeQ 14 (.bool false) (some 35) rfl rfl (by kernel_rfl) (Or.inl ⟨by rfl, ?yr2bbb3⟩) hH ?rr2bbb3
       case yr2bbb3 => intro w' hS'; go_simp; try with_reducible rfl
       try simp only [zA]
       refine takeQ 15 (.pointer (some ⟨g, 3, none⟩)) (some 36) rfl rfl (by kernel_rfl) (Or.inl ⟨by rfl, ?yr2bbb4⟩) hH ?rr2bbb4
       case yr2bbb4 => intro w' hS'; go_simp; try with_reducible rfl
       try simp only [zA]
       refine takeQ 16 (.slice A2 n2 c2) (some 37) rfl rfl (by kernel_rfl) (Or.inl ⟨by rfl, ?yr2bbb5⟩) hH ?rr2bbb5
       case yr2bbb5 => intro w' hS'; obtain ⟨s0, s1, s2⟩ := hS'; obtain ⟨x0, x1, x2, x3⟩ := BH.out _ _ s0; obtain ⟨r1, f1⟩ := s1.rules; go_simp; try with_reducible rfl
       try simp only [zA]
       refine takeQ 17 (.int .i64 (n2 : Int)) (some 38) rfl rfl (by kernel_rfl) (Or.inl ⟨by rfl, ?yr2bbb6⟩) hH ?rr2bbb6
       case yr2bbb6 => intro w' hS'; obtain ⟨s0, s1, s2⟩ := hS'; obtain ⟨x0, x1, x2, x3⟩ := BH.out _ _ s0; obtain ⟨r1, f1⟩ := s1.rules; go_simp; try with_reducible rfl
       try simp only [zA]
       rcases Nat.eq_zero_or_pos n2 with z2 | z2
       · have zz : ((n2 : Int) == 0) = true := beq_iff_eq.2 (by omega)
         have zz' : ((0 : Int) == 0) = true := rfl
         have Z2 := hU z2
         clear z2
         refine takeQ 18 (.bool true) (some 39) rfl rfl (by kernel_rfl) (Or.inl ⟨by rfl, ?yr2bbba1⟩) hH ?rr2bbba1
         case yr2bbba1 => intro w' hS'; go_simp; try with_reducible rfl
         try simp only [zA]
         refine takeQ 19 (.bool true) (some 40) rfl rfl (by kernel_rfl) (Or.inl ⟨by rfl, ?yr2bbba2⟩) hH ?rr2bbba2
         case yr2bbba2 => intro w' hS'; go_simp; try with_reducible rfl
         try simp only [zA]
         refine takeQ 20 (.bool true) (some 41) rfl rfl (by kernel_rfl) (Or.inl ⟨by rfl, ?yr2bbba3⟩) hH ?rr2bbba3
         case yr2bbba3 => intro w' hS'; go_simp; try with_reducible rfl
         try simp only [zA]
         refine takeQ 21 (undef) (some 42) rfl rfl (by kernel_rfl) (Or.inr ⟨by go_simp; try (intro h; cases h), rfl⟩) hH ?rr2bbba4
         try simp only [zB]
         refine takeQ 22 (undef) (some 43) rfl rfl (by kernel_rfl) (Or.inr ⟨by go_simp; try (intro h; cases h), rfl⟩) hH ?rr2bbba5
         try simp only [zB]
         refine takeQ 23 (undef) (some 44) rfl rfl (by kernel_rfl) (Or.inr ⟨by go_simp; try (intro h; cases h), rfl⟩) hH ?rr2bbba6
         try simp only [zB]
         refine takeQ 24 (undef) (some 45) rfl rfl (by kernel_rfl) (Or.inr ⟨by go_simp; try (intro h; cases h), rfl⟩) hH ?rr2bbba7
         try simp only [zB]
         refine takeQ 25 (undef) (some 46) rfl rfl (by kernel_rfl) (Or.inr ⟨by go_simp; try (intro h; cases h), rfl⟩) hH ?rr2bbba8
         try simp only [zB]
         refine takeQ 26 (undef) (some 47) rfl rfl (by kernel_rfl) (Or.inr ⟨by go_simp; try (intro h; cases h), rfl⟩) hH ?rr2bbba9
         try simp only [zB]
         refine takeQ 27 (.bool true) (some 48) rfl rfl (by kernel_rfl) (Or.inl ⟨by rfl, ?yr2bbba10⟩) hH ?rr2bbba10
         case yr2bbba10 => intro w' hS'; go_simp; try with_reducible rfl
         try simp only [zA]
         refine takeQ 28 (.bool true) (some 49) rfl rfl (by kernel_rfl) (Or.inl ⟨by rfl, ?yr2bbba11⟩) hH ?rr2bbba11
         case yr2bbba11 => intro w' hS'; go_simp; try with_reducible rfl
         try simp only [zA]
         refine takeQ 29 (undef) (some 50) rfl rfl (by kernel_rfl) (Or.inr ⟨by go_simp; try (intro h; cases h), rfl⟩) hH ?rr2bbba12
         try simp only [zB]
         refine takeQ 30 (undef) (some 51) rfl rfl (by kernel_rfl) (Or.inr ⟨by go_simp; try (intro h; cases h), rfl⟩) hH ?rr2bbba13
         try simp only [zB]
         refine takeQ 31 (undef) (some 52) rfl rfl (by kernel_rfl) (Or.inr ⟨by go_simp; try (intro h; cases h), rfl⟩) hH ?rr2bbba14
         try simp only [zB]
         refine takeQ 32 (undef) (some 53) rfl rfl (by kernel_rfl) (Or.inr ⟨by go_simp; try (intro h; cases h), rfl⟩) hH ?rr2bbba15
         try simp only [zB]
         refine takeQ 33 (undef) (some 54) rfl rfl (by kernel_rfl) (Or.inr ⟨by go_simp; try (intro h; cases h), rfl⟩) hH ?rr2bbba16
         try simp only [zB]
         refine takeQ 34 (undef) (some 55) rfl rfl (by kernel_rfl) (Or.inr ⟨by go_simp; try (intro h; cases h), rfl⟩) hH ?rr2bbba17
         try simp only [zB]
         refine takeQ 35 (.bool true) (some 56) rfl rfl (by kernel_rfl) (Or.inl ⟨by rfl, ?yr2bbba18⟩) hH ?rr2bbba18
         case yr2bbba18 => intro w' hS'; go_simp; try with_reducible rfl
         try simp only [zA]
         have E := hU (show fin = false by rw [FN.out]; exact no_parts (by rw [F.out, p1, p2, p3', Z2.out]; rfl))
         have HE := hU hH.2.2
         clear hH
         refine wpAnyH_done (by kernel_rfl) ?_ _
         go_wp2_with fail
         go_ret
         exact ⟨ret_bool E.out.symm, HE.out⟩
       · have zz : ((n2 : Int) == 0) = false := beq_false_of_ne (by omega)
         refine takeQ 18 (.bool false) (some 39) rfl rfl (by kernel_rfl) (Or.inl ⟨by rfl, ?yr2bbbb1⟩) hH ?rr2bbbb1
         case yr2bbbb1 => intro w' hS'; go_simp; try with_reducible rfl
         try simp only [zA]
         refine takeQ 19 (.bool false) (some 40) rfl rfl (by kernel_rfl) (Or.inl ⟨by rfl, ?yr2bbbb2⟩) hH ?rr2bbbb2
         case yr2bbbb2 => intro w' hS'; go_simp; try with_reducible rfl
         try simp only [zA]
         refine takeQ 20 (.bool false) (some 41) rfl rfl (by kernel_rfl) (Or.inl ⟨by rfl, ?yr2bbbb3⟩) hH ?rr2bbbb3
         case yr2bbbb3 => intro w' hS'; go_simp; try with_reducible rfl
         try simp only [zA]
         refine takeQ 21 (.pointer (some ⟨g, 0, none⟩)) (some 42) rfl rfl (by kernel_rfl) (Or.inl ⟨by rfl, ?yr2bbbb4⟩) hH ?rr2bbbb4
         case yr2bbbb4 => intro w' hS'; go_simp; try with_reducible rfl
         try simp only [zA]
         refine takeQ 22 (.int .i64 b.width) (some 43) rfl rfl (by kernel_rfl) (Or.inl ⟨by rfl, ?yr2bbbb5⟩) hH ?rr2bbbb5
         case yr2bbbb5 => intro w' hS'; obtain ⟨s0, s1, s2⟩ := hS'; obtain ⟨x0, x1, x2, x3⟩ := BH.out _ _ s0; obtain ⟨r1, f1⟩ := s1.rules; go_simp; try with_reducible rfl
         try simp only [zA]
         refine takeQ 23 (.pointer (some ⟨g, 3, none⟩)) (some 44) rfl rfl (by kernel_rfl) (Or.inl ⟨by rfl, ?yr2bbbb6⟩) hH ?rr2bbbb6
         case yr2bbbb6 => intro w' hS'; go_simp; try with_reducible rfl
         try simp only [zA]
         refine takeQ 24 (.slice A2 n2 c2) (some 45) rfl rfl (by kernel_rfl) (Or.inl ⟨by rfl, ?yr2bbbb7⟩) hH ?rr2bbbb7
         case yr2bbbb7 => intro w' hS'; obtain ⟨s0, s1, s2⟩ := hS'; obtain ⟨x0, x1, x2, x3⟩ := BH.out _ _ s0; obtain ⟨r1, f1⟩ := s1.rules; go_simp; try with_reducible rfl
         try simp only [zA]
         refine oneHw 25 (oi := _) (some 46) (by kernel_rfl) rfl (by rfl) rfl (fun K' hK => ?_)
         refine ⟨?_⟩
         rw [if_pos (by rfl)]
         go_simp
         refine (HO.out _ hH.2.2).mono ?_
         rintro e wc ⟨rfl, h1⟩
         refine hK.out _ _ ⟨_, rfl⟩ (⟨hH.1.ext h1, hH.2.1.ext h1, hH.2.2.next h1⟩) (fun hH2 => ?_)
         clear hK K' hH h1
         have hH := hH2
         clear hH2
         try simp only [zB]
         cases p4 : headsOk b.width b.heads
         · skip
           refine takeQ 26 (.bool true) (some 47) rfl rfl (by kernel_rfl) (Or.inl ⟨by rfl, ?yr2bbbba1⟩) hH ?rr2bbbba1
           case yr2bbbba1 => intro w' hS'; go_simp; try with_reducible rfl
           try simp only [zA]
           refine takeQ 27 (.bool true) (some 48) rfl rfl (by kernel_rfl) (Or.inl ⟨by rfl, ?yr2bbbba2⟩) hH ?rr2bbbba2
           case yr2bbbba2 => intro w' hS'; go_simp; try with_reducible rfl
           try simp only [zA]
           refine takeQ 28 (.bool true) (some 49) rfl rfl (by kernel_rfl) (Or.inl ⟨by rfl, ?yr2bbbba3⟩) hH ?rr2bbbba3
           case yr2bbbba3 => intro w' hS'; go_simp; try with_reducible rfl
           try simp only [zA]
           refine takeQ 29 (undef) (some 50) rfl rfl (by kernel_rfl) (Or.inr ⟨by go_simp; try (intro h; cases h), rfl⟩) hH ?rr2bbbba4
           try simp only [zB]
           refine takeQ 30 (undef) (some 51) rfl rfl (by kernel_rfl) (Or.inr ⟨by go_simp; try (intro h; cases h), rfl⟩) hH ?rr2bbbba5
           try simp only [zB]
           refine takeQ 31 (undef) (some 52) rfl rfl (by kernel_rfl) (Or.inr ⟨by go_simp; try (intro h; cases h), rfl⟩) hH ?rr2bbbba6
           try simp only [zB]
           refine takeQ 32 (undef) (some 53) rfl rfl (by kernel_rfl) (Or.inr ⟨by go_simp; try (intro h; cases h), rfl⟩) hH ?rr2bbbba7
           try simp only [zB]
           refine takeQ 33 (undef) (some 54) rfl rfl (by kernel_rfl) (Or.inr ⟨by go_simp; try (intro h; cases h), rfl⟩) hH ?rr2bbbba8
           try simp only [zB]
           refine takeQ 34 (undef) (some 55) rfl rfl (by kernel_rfl) (Or.inr ⟨by go_simp; try (intro h; cases h), rfl⟩) hH ?rr2bbbba9
           try simp only [zB]
           refine takeQ 35 (.bool true) (some 56) rfl rfl (by kernel_rfl) (Or.inl ⟨by rfl, ?yr2bbbba10⟩) hH ?rr2bbbba10
           case yr2bbbba10 => intro w' hS'; go_simp; try with_reducible rfl
           try simp only [zA]
           have E := hU (show fin = false by rw [FN.out]; exact no_parts (by rw [F.out, p1, p2, p3', p4]; simp))
           have HE := hU hH.2.2
           clear hH
           refine wpAnyH_done (by kernel_rfl) ?_ _
           go_wp2_with fail
           go_ret
           exact ⟨ret_bool E.out.symm, HE.out⟩
         · obtain ⟨bh, oh, hA2, hbh, _⟩ := Reads.at_ S2.out.reads (k := 0) (by rw [← N2.out]; exact z2)
           obtain ⟨d0, hd0⟩ : ∃ d0, b.heads[0]? = some d0 := ⟨b.heads[0]'(by rw [← N2.out]; exact z2), List.getElem?_eq_getElem _⟩
           have CH := hU (fun (W : World) (hW : Ext w W) => heads_cells (by have := S2.out.ext hW; rw [hA2] at this; exact this) hd0)
           have Hd0 := hU hd0
           have HQ := HeadD.run_neq d0 HN
           subst hA2
           clear hd0
           refine takeQ 26 (.bool false) (some 47) rfl rfl (by kernel_rfl) (Or.inl ⟨by rfl, ?yr2bbbbb1⟩) hH ?rr2bbbbb1
           case yr2bbbbb1 => intro w' hS'; go_simp; try with_reducible rfl
           try simp only [zA]
           refine takeQ 27 (.bool false) (some 48) rfl rfl (by kernel_rfl) (Or.inl ⟨by rfl, ?yr2bbbbb2⟩) hH ?rr2bbbbb2
           case yr2bbbbb2 => intro w' hS'; go_simp; try with_reducible rfl
           try simp only [zA]
           refine takeQ 28 (.bool false) (some 49) rfl rfl (by kernel_rfl) (Or.inl ⟨by rfl, ?yr2bbbbb3⟩) hH ?rr2bbbbb3
           case yr2bbbbb3 => intro w' hS'; go_simp; try with_reducible rfl
           try simp only [zA]
           refine takeQ 29 (.pointer (some ⟨g, 3, none⟩)) (some 50) rfl rfl (by kernel_rfl) (Or.inl ⟨by rfl, ?yr2bbbbb4⟩) hH ?rr2bbbbb4
           case yr2bbbbb4 => intro w' hS'; go_simp; try with_reducible rfl
           try simp only [zA]
           refine takeQ 30 (.slice (some ⟨bh, oh, none⟩) n2 c2) (some 51) rfl rfl (by kernel_rfl) (Or.inl ⟨by rfl, ?yr2bbbbb5⟩) hH ?rr2bbbbb5
           case yr2bbbbb5 => intro w' hS'; obtain ⟨s0, s1, s2⟩ := hS'; obtain ⟨x0, x1, x2, x3⟩ := BH.out _ _ s0; obtain ⟨r1, f1⟩ := s1.rules; obtain ⟨y0, y1, y2, y3, y4⟩ := CH.out _ s2; simp only [Nat.zero_mul, Nat.add_zero] at y0 y1 y2 y3 y4; go_simp; try with_reducible rfl
           try simp only [zA]
           refine takeQ 31 (.pointer (some ⟨bh, oh, none⟩)) (some 52) rfl rfl (by kernel_rfl) (Or.inl ⟨by rfl, ?yr2bbbbb6⟩) hH ?rr2bbbbb6
           case yr2bbbbb6 => intro w' hS'; go_simp; try with_reducible rfl
           try simp only [zA]
           refine takeQ 32 (.agg #[.int .i64 d0.number, .int .i64 d0.size, .string d0.root, .int .i64 d0.taken, .string d0.takenRoot]) (some 53) rfl rfl (by kernel_rfl) (Or.inl ⟨by rfl, ?yr2bbbbb7⟩) hH ?rr2bbbbb7
           case yr2bbbbb7 => intro w' hS'; obtain ⟨s0, s1, s2⟩ := hS'; obtain ⟨x0, x1, x2, x3⟩ := BH.out _ _ s0; obtain ⟨r1, f1⟩ := s1.rules; obtain ⟨y0, y1, y2, y3, y4⟩ := CH.out _ s2; simp only [Nat.zero_mul, Nat.add_zero] at y0 y1 y2 y3 y4; go_simp; try with_reducible rfl
           try simp only [zA]
           refine takeQ 33 (.agg #[.int .i64 HN.number, .int .i64 HN.size, .string HN.root, .int .i64 HN.taken, .string HN.takenRoot]) (some 54) rfl rfl (by kernel_rfl) (Or.inl ⟨by rfl, ?yr2bbbbb8⟩) hH ?rr2bbbbb8
           case yr2bbbbb8 => intro w' hS'; obtain ⟨s0, s1, s2⟩ := hS'; obtain ⟨x0, x1, x2, x3⟩ := BH.out _ _ s0; obtain ⟨r1, f1⟩ := s1.rules; obtain ⟨y0, y1, y2, y3, y4⟩ := CH.out _ s2; simp only [Nat.zero_mul, Nat.add_zero] at y0 y1 y2 y3 y4; go_simp; try with_reducible rfl
           try simp only [zA]
           cases p5 : d0.eqb HN
           · skip
             refine takeQ 34 (.bool true) (some 55) rfl rfl (by kernel_rfl) (Or.inl ⟨by rfl, ?yr2bbbbba1⟩) hH ?rr2bbbbba1
             case yr2bbbbba1 => intro w' hS'; go_simp; try with_reducible rfl
             try simp only [zA]
             refine takeQ 35 (.bool true) (some 56) rfl rfl (by kernel_rfl) (Or.inl ⟨by rfl, ?yr2bbbbba2⟩) hH ?rr2bbbbba2
             case yr2bbbbba2 => intro w' hS'; go_simp; try with_reducible rfl
             try simp only [zA]
             have E := hU (show fin = false by rw [FN.out]; exact no_parts (by rw [F.out, p1, p2, p3', p4, last_head Hd0.out]; rw [show newH true b.width = HN by rw [HHN.out, p1], p5]; simp))
             have HE := hU hH.2.2
             clear hH
             refine wpAnyH_done (by kernel_rfl) ?_ _
             go_wp2_with fail
             go_ret
             exact ⟨ret_bool E.out.symm, HE.out⟩
           · skip
             refine takeQ 34 (.bool false) (some 55) rfl rfl (by kernel_rfl) (Or.inl ⟨by rfl, ?yr2bbbbbb1⟩) hH ?rr2bbbbbb1
             case yr2bbbbbb1 => intro w' hS'; go_simp; try with_reducible rfl
             try simp only [zA]
             refine takeQ 35 (.bool false) (some 56) rfl rfl (by kernel_rfl) (Or.inl ⟨by rfl, ?yr2bbbbbb2⟩) hH ?rr2bbbbbb2
             case yr2bbbbbb2 => intro w' hS'; go_simp; try with_reducible rfl
             try simp only [zA]
             have HE := hU hH.2.2
             have KB := hU hH.1
             clear hH
             refine wpAnyH_done (by kernel_rfl) ?_ _
             have F5 := hU (show brkParts b = (allTo (sealAt b.width (leavesH b.width b.log.entries) (takenH b.width b.receipts) b.heads) n2 && allTo (readAt b) n1) by rw [F.out, p1, p2, p3', p4, last_head Hd0.out, show newH true b.width = HN by rw [HHN.out, p1], p5, decide_eq_true z2]; rfl)
             have P2 := hU p2; have P3 := hU p3'; have P4 := hU p4; have HWD := hU hwd; have Z2 := hU z2
             clear p1 p2 p3' p4 p5 hwd zz z2 HQ
             obtain ⟨LH, hLH⟩ : ∃ LH, LH = leavesH b.width b.log.entries := ⟨_, rfl⟩
             obtain ⟨TH, hTH⟩ : ∃ TH, TH = takenH b.width b.receipts := ⟨_, rfl⟩
             have HLH := hU hLH; have HTH := hU hTH
             rw [← hLH, ← hTH] at F5
             clear hLH hTH
             have C4 := hU (fun (u : World) (hu : Ext w u) => l09Hashes_any b.width A0 c0 b.log.entries u (S0.out.ext hu) O0.out (by have := logOk_all P2.out; omega))
             rw [← N0.out] at C4
             have C5 := hU (fun (u : World) (hu : Ext w u) => l12Taken_any b.width A1 c1 b.receipts u (S1.out.ext hu) O1.out (by have := recsOk_all P3.out; omega))
             rw [← N1.out] at C5
             obtain ⟨x0, x1, x2, x3⟩ := BH.out _ _ KB.out
             go_wp2_with fail
             refine (C4.out _ HE.out).mono ?_
             rintro e wd ⟨v, rfl, hown, h1⟩
             have hr : RowT w.heap.size wd v LH := RowT.of (ownsRow_base hown HE.out.size) (by rw [HLH.out, leavesH, List.length_map, N0.out]) (by rw [HLH.out]; rfl)
             obtain ⟨Al, cl, hvf, lcl, lcm, _⟩ := hr.cells
             subst hvf
             have RL := hU hr
             replace KB := hU (KB.out.ext h1); replace HE := hU (HE.out.next h1)
             clear hr hown h1 x0 x1 x2 x3
             obtain ⟨x0, x1, x2, x3⟩ := BH.out _ _ KB.out
             go_wp2_with fail
             refine (C5.out _ HE.out).mono ?_
             rintro e we ⟨v, rfl, hown, h1⟩
             have hr : RowT w.heap.size we v TH := RowT.of (ownsRow_base hown HE.out.size) (by rw [HTH.out, takenH, List.length_map, N1.out]) (by rw [HTH.out]; rfl)
             obtain ⟨At, ct, hvf, lct, lcm2, _⟩ := hr.cells
             subst hvf
             have RT := hU hr
             replace RL := hU (RowT.ext RL.out h1)
             replace KB := hU (KB.out.ext h1); replace HE := hU (HE.out.next h1)
             have LCS := hU (And.intro (And.intro lcl lcm) (And.intro lct lcm2))
             have ll5 : LH.length ≤ 512 := by rw [HLH.out, leavesH, List.length_map]; exact (logOk_all P2.out).1
             have tl5 : TH.length ≤ 512 := by rw [HTH.out, takenH, List.length_map]; exact (recsOk_all P3.out).1
             have LW := hU (show ∀ x ∈ LH, x.size = b.width.toNat from fun x hx => by rw [HLH.out] at hx; exact leavesH_size HWD.out P2.out x hx)
             have TW := hU (show ∀ x ∈ TH, x.size = b.width.toNat from fun x hx => by rw [HTH.out] at hx; exact takenH_size HWD.out P3.out x hx)
             have n24 : n2 ≤ 400 := by have := (headsOk_all P4.out).2.1; have := N2.out; omega
             clear hr hown h1 x0 x1 x2 x3 lcl lcm lct lcm2
             go_wp2_with fail
             go_loopw [7] (fun i wr => ∃ k : Nat, k ≤ n2 ∧ i = .int .i64 (k : Int) ∧ allTo (sealAt b.width LH TH b.heads) k = true ∧ Blk wr g 59 cs.toArray ∧ RowT w.heap.size wr (.slice Al LH.length cl) LH ∧ RowT w.heap.size wr (.slice At TH.length ct) TH ∧ Ext w wr) (fun i _ => n2 - (intOf i).toNat)
             case atStart => exact ⟨0, Nat.zero_le _, rfl, rfl, KB.out, RL.out, RT.out, HE.out⟩
             case round =>
              clear KB RL RT HE
              obtain ⟨k, hk, rfl, hi, kb, rl, rt, he⟩ := hrel
              obtain ⟨wr, rfl⟩ := blk_name kb
              have Hi := hU hi; have KB := hU kb; have RL := hU rl; have RT := hU rt; have HE := hU he
              obtain ⟨x0, x1, x2, x3⟩ := BH.out _ _ kb
              clear hi kb rl rt
              by_cases hlt : k < n2
              case neg =>
               have hkn : k = n2 := by omega
               have AH := hU (show allTo (sealAt b.width LH TH b.heads) n2 = true by rw [← hkn]; exact Hi.out)
               have F6 := hU (show brkParts b = allTo (readAt b) n1 by rw [F5.out, AH.out]; rfl)
               have HKN := hU hkn
               clear hkn
               have RG := hU (Blk.range KB.out)
               have HL13 := hU (show cs.length = 13 by rw [HCS.out]; rfl)
               have LC := hU (l12Last_any cs (some ⟨bh, oh, none⟩) c2 b.heads wr HL13.out (by rw [HCS.out]; rfl) (S2.out.ext HE.out).reads (by rw [← N2.out]; exact Z2.out) (by have := (headsOk_all P4.out).2.1; omega))
               have lat := last_at (hs := b.heads) (by rw [← N2.out]; exact Z2.out)
               have lok := (headAt_ok lat ((headsOk_all P4.out).2.2 _ (by have := N2.out; have := Z2.out; omega))).1
               have lin := headOk_in lok
               have lsa := allTo_iff.1 AH.out (b.heads.length - 1) (by have := N2.out; have := Z2.out; omega)
               rw [sealAt, lat] at lsa
               simp only [Bool.and_eq_true, decide_eq_true_eq] at lsa
               obtain ⟨LHd, hLHd⟩ : ∃ LHd, LHd = lastH b.heads := ⟨_, rfl⟩
               have HLHd := hU hLHd
               rw [← hLHd] at LC lin lsa
               obtain ⟨nL, hnL⟩ : ∃ nL, nL = LHd.size.toNat := ⟨_, rfl⟩
               obtain ⟨nT, hnT⟩ : ∃ nT, nT = LHd.taken.toNat := ⟨_, rfl⟩
               have LS := hU (show LHd.size = (nL : Int) ∧ LHd.taken = (nT : Int) ∧ nL ≤ LH.length ∧ nT ≤ TH.length by omega)
               clear lat lok lin lsa hLHd hnL hnT he
               go_wp2_with (refine wpList_load_mid rfl 59 _ rfl g 0 rfl cs _ RG.out Tryz.underlying59 rfl (by rw [HL13.out]; kernel_rfl) ?_)
               refine LC.out.mono ?_
               rintro e wh ⟨rfl, h1⟩
               replace RL := hU (RowT.ext RL.out h1); replace RT := hU (RowT.ext RT.out h1); replace KB := hU (KB.out.ext h1); replace HE := hU (HE.out.next h1)
               clear h1 x0 x1 x2 x3 LC RG
               go_upto_region 13 with fail
               have kq := Blk.new wh 55 #[.int .i64 LHd.number, .int .i64 LHd.size, .string LHd.root, .int .i64 LHd.taken, .string LHd.takenRoot]
               have hx := Ext.new (Below.refl wh.heap.size wh) (.cells #[.int .i64 LHd.number, .int .i64 LHd.size, .string LHd.root, .int .i64 LHd.taken, .string LHd.takenRoot] 55)
               replace KB := hU (KB.out.ext hx); replace RL := hU (RowT.ext RL.out hx); replace RT := hU (RowT.ext RT.out hx); replace HE := hU (HE.out.next hx)
               obtain ⟨q9, hq9⟩ : ∃ q9, q9 = wh.heap.size := ⟨_, rfl⟩
               rw [← hq9] at kq
               rw [← hq9]
               clear hq9 hx
               generalize wh.alloc (.cells #[.int .i64 LHd.number, .int .i64 LHd.size, .string LHd.root, .int .i64 LHd.taken, .string LHd.takenRoot] 55) = w10 at *
               have KQ := hU kq
               clear kq
               have nle : nL ≤ n0 := by have := LS.out.2.2.1; rw [HLH.out, leavesH, List.length_map] at this; rw [N0.out]; exact this
               have n0c : n0 ≤ c0 := by rw [N0.out]; exact S0.out.le
               have nL5 : nL ≤ 512 := by have := LS.out.2.2.1; omega
               have c0m : c0 ≤ 9223372036854775807 := S0.out.cap
               have n1b : n1 ≤ 512 := by have := recsOk_all P3.out; have := N1.out; omega
               have SLE := hU (fun W => run_pre (P := Tryz.prog) (t := 49) A0 n0 c0 nL 5 Tryz.underlying49 (fun W => by kernel_rfl) (by omega) (x := LHd.size) LS.out.1 W)
               have tkE : (b.log.entries.take nL).length = nL := by rw [List.length_take, ← N0.out]; omega
               have LF := hU (fun (W : World) (hW : Ext w W) (t : ByteArray) (ix : Int) => l09Leaf_any A0 c0 (b.log.entries.take nL) t ix W (reads_take EntryD.cells_length (S0.out.ext hW).reads nL (by rw [← N0.out]; exact nle)) (by rw [tkE]; omega))
               rw [tkE] at LF
               clear tkE nle n0c
               go_wp2_with fail
               go_loopw [10] (fun i wr => ∃ k2 : Nat, k2 ≤ n1 ∧ i = .int .i64 (k2 : Int) ∧ allTo (readAt b) k2 = true ∧ Blk wr g 59 cs.toArray ∧ Blk wr q9 55 #[.int .i64 LHd.number, .int .i64 LHd.size, .string LHd.root, .int .i64 LHd.taken, .string LHd.takenRoot] ∧ RowT w.heap.size wr (.slice Al LH.length cl) LH ∧ RowT w.heap.size wr (.slice At TH.length ct) TH ∧ Ext w wr) (fun i _ => n1 - (intOf i).toNat)
               case atStart => exact ⟨0, Nat.zero_le _, rfl, rfl, KB.out, KQ.out, RL.out, RT.out, HE.out⟩
               case round =>
                clear KB KQ RL RT HE
                obtain ⟨k2, hk2, rfl, hi2, kb, kq, rl, rt, he⟩ := hrel
                obtain ⟨wr2, rfl⟩ := blk_name kb
                have Hi2 := hU hi2; have KB := hU kb; have KQ := hU kq; have RL := hU rl; have RT := hU rt; have HE := hU he
                obtain ⟨x0, x1, x2, x3⟩ := BH.out _ _ kb
                clear hi2 kb kq rl rt he
                by_cases hlt2 : k2 < n1
                case neg =>
                 have hkn2 : k2 = n1 := by omega
                 have PT := hU (show brkParts b = true by rw [F6.out, ← hkn2]; exact Hi2.out)
                 have HKN2 := hU hkn2
                 clear hkn2
                 have BS := hU (broker_spec b PT.out)
                 have w32 := inR_true HWD.out
                 have tkL : (LH.take nL).length = nL := by rw [List.length_take]; have := LS.out.2.2.1; omega
                 have tkT : (TH.take nT).length = nT := by rw [List.length_take]; have := LS.out.2.2.2; omega
                 have lcs := LCS.out
                 have SL1 := hU (fun W => run_pre (P := Tryz.prog) (t := 22) Al LH.length cl nL 1 Tryz.underlying22 (fun W => by kernel_rfl) (by have := LS.out.2.2.1; omega) (x := LHd.size) LS.out.1 W)
                 have SL2 := hU (fun W => run_pre (P := Tryz.prog) (t := 22) At TH.length ct nT 1 Tryz.underlying22 (fun W => by kernel_rfl) (by have := LS.out.2.2.2; omega) (x := LHd.taken) LS.out.2.1 W)
                 have CR1 := hU (fun (W : World) (h : RowT w.heap.size W (.slice Al LH.length cl) LH) => RangeOf_good b.width HWD.out Al cl (LH.take nL) W (reads_take (f := sone) (size := 1) (fun _ => rfl) (show ReadsL W W.heap.size sone 1 Al LH from Reads.of_own (c := cl) h) nL LS.out.2.2.1) (fun x hx => LW.out x (List.mem_of_mem_take hx)) (by rw [tkL]; have := LS.out.2.2.1; omega))
                 have CR2 := hU (fun (W : World) (h : RowT w.heap.size W (.slice At TH.length ct) TH) => RangeOf_good b.width HWD.out At ct (TH.take nT) W (reads_take (f := sone) (size := 1) (fun _ => rfl) (show ReadsL W W.heap.size sone 1 At TH from Reads.of_own (c := ct) h) nT LS.out.2.2.2) (fun x hx => TW.out x (List.mem_of_mem_take hx)) (by rw [tkT]; have := LS.out.2.2.2; omega))
                 rw [tkL] at CR1
                 rw [tkT] at CR2
                 obtain ⟨PX, hPX⟩ : ∃ PX, PX = (peaksOf (ndB b.width) (LH.take nL)).reverse := ⟨_, rfl⟩
                 obtain ⟨PY, hPY⟩ : ∃ PY, PY = (peaksOf (ndB b.width) (TH.take nT)).reverse := ⟨_, rfl⟩
                 rw [← hPX] at CR1
                 rw [← hPY] at CR2
                 have HPX := hU hPX; have HPY := hU hPY
                 clear hPX hPY w32 lcs tkL tkT
                 go_upto_region 18 with fail
                 clear x0 x1 x2 x3
                 go_cut [11, 12] (fun v1 v2 wx => ∃ (q : Nat) (a : Option Addr) (c : Nat), v1 = .pointer (some ⟨q, 0, none⟩) ∧ Blk wx q 54 #[.int .i64 (nL : Int), .slice a PX.length c] ∧ RowT w.heap.size wx (.slice a PX.length c) PX ∧ Blk wx g 59 cs.toArray ∧ Blk wx q9 55 #[.int .i64 LHd.number, .int .i64 LHd.size, .string LHd.root, .int .i64 LHd.taken, .string LHd.takenRoot] ∧ RowT w.heap.size wx (.slice Al LH.length cl) LH ∧ RowT w.heap.size wx (.slice At TH.length ct) TH ∧ Ext w wx)
                 case first =>
                  have SL := SL1.out
                  refine wp_region_held_drew (S := fun w' => Blk w' g 59 cs.toArray ∧ Blk w' q9 55 #[.int .i64 LHd.number, .int .i64 LHd.size, .string LHd.root, .int .i64 LHd.taken, .string LHd.takenRoot] ∧ RowT w.heap.size w' (.slice Al LH.length cl) LH ∧ RowT w.heap.size w' (.slice At TH.length ct) TH ∧ Ext w w') (by kernel_rfl) ⟨KB.out.drew, KQ.out.drew, RL.out, RT.out, HE.out.drew⟩ (fun hH => ?_)
                  clear KB KQ RL RT HE
                  generalize wr2.drew = w0 at *
                  refine takeQ 0 (.pointer (some ⟨g, 0, none⟩)) (some 146) rfl rfl (by kernel_rfl) (Or.inl ⟨by rfl, ?yr181⟩) hH ?rr181
                  case yr181 => intro w' hS'; go_simp; try with_reducible rfl
                  try simp only [zA]
                  refine takeQ 1 (.int .i64 b.width) (some 147) rfl rfl (by kernel_rfl) (Or.inl ⟨by rfl, ?yr182⟩) hH ?rr182
                  case yr182 => intro w' hS'; obtain ⟨s0, s1, s2, s3, s4⟩ := hS'; obtain ⟨x0, x1, x2, x3⟩ := BH.out _ _ s0; obtain ⟨r1, f1⟩ := s1.rules; go_simp; try with_reducible rfl
                  try simp only [zA]
                  refine takeQ 2 (.slice Al LH.length cl) (some 148) rfl rfl (by kernel_rfl) (Or.inl ⟨by rfl, ?yr183⟩) hH ?rr183
                  case yr183 => intro w' hS'; obtain ⟨s0, s1, s2, s3, s4⟩ := hS'; obtain ⟨x0, x1, x2, x3⟩ := BH.out _ _ s0; obtain ⟨r1, f1⟩ := s1.rules; go_simp; try with_reducible rfl
                  try simp only [zA]
                  refine takeQ 3 (.pointer (some ⟨q9, 1, none⟩)) (some 149) rfl rfl (by kernel_rfl) (Or.inl ⟨by rfl, ?yr184⟩) hH ?rr184
                  case yr184 => intro w' hS'; go_simp; try with_reducible rfl
                  try simp only [zA]
                  refine takeQ 4 (.int .i64 LHd.size) (some 150) rfl rfl (by kernel_rfl) (Or.inl ⟨by rfl, ?yr185⟩) hH ?rr185
                  case yr185 => intro w' hS'; obtain ⟨s0, s1, s2, s3, s4⟩ := hS'; obtain ⟨x0, x1, x2, x3⟩ := BH.out _ _ s0; obtain ⟨r1, f1⟩ := s1.rules; go_simp; try with_reducible rfl
                  try simp only [zA]
                  refine takeQ 5 (.slice Al nL cl) (some 151) rfl rfl (by kernel_rfl) (Or.inl ⟨by rfl, ?yr186⟩) hH ?rr186
                  case yr186 => intro w' hS'; obtain ⟨s0, s1, s2, s3, s4⟩ := hS'; obtain ⟨x0, x1, x2, x3⟩ := BH.out _ _ s0; obtain ⟨r1, f1⟩ := s1.rules; go_simp; try with_reducible rfl
                  try simp only [zA]
                  refine twoH 6 10 (oi := _) (oj := _) (some 152) (some 11) (by kernel_rfl) rfl rfl rfl rfl rfl rfl (fun K' hK => ?_) (fun K' hK => ?_)
                  · skip
                    refine ⟨?_⟩
                    rw [if_pos (by rfl)]
                    go_simp
                    refine (CR1.out _ hH.2.2.1).mono ?_
                    rintro e wA ⟨v, rfl, hrow, h1⟩
                    have hrow2 := ownsRow_base hrow (hH.2.2.2.2).size
                    obtain ⟨a, c, hvf, _⟩ := ownsRow_form hrow2
                    subst hvf
                    have RV := hU (show RowT w.heap.size wA (.slice a PX.length c) PX from hrow2)
                    clear hrow hrow2
                    refine hK.out _ _ ⟨_, rfl⟩ ⟨((hH.1).ext h1), ((hH.2.1).ext h1), (RowT.ext (hH.2.2.1) h1), (RowT.ext (hH.2.2.2.1) h1), (hH.2.2.2.2.next h1)⟩ (fun hH2 => ?_)
                    clear hK K' hH h1
                    have hH := hH2
                    clear hH2
                    try simp only [zB]
                    refine takeQ 7 (.tuple #[.agg #[.int .i64 (nL : Int), .slice a PX.length c], .bool true]) (some 145) rfl rfl (by kernel_rfl) (Or.inl ⟨by rfl, ?yr18a1⟩) hH ?rr18a1
                    case yr18a1 => intro w' hS'; obtain ⟨s0, s1, s2, s3, s4⟩ := hS'; obtain ⟨x0, x1, x2, x3⟩ := BH.out _ _ s0; obtain ⟨r1, f1⟩ := s1.rules; go_simp; try with_reducible rfl
                    try simp only [zA]
                    refine takeQ 8 (.agg #[.int .i64 (nL : Int), .slice a PX.length c]) (some 153) rfl rfl (by kernel_rfl) (Or.inl ⟨by rfl, ?yr18a2⟩) hH ?rr18a2
                    case yr18a2 => intro w' hS'; obtain ⟨s0, s1, s2, s3, s4⟩ := hS'; obtain ⟨x0, x1, x2, x3⟩ := BH.out _ _ s0; obtain ⟨r1, f1⟩ := s1.rules; go_simp; try with_reducible rfl
                    try simp only [zA]
                    refine takeQ 9 (.bool true) (some 154) rfl rfl (by kernel_rfl) (Or.inl ⟨by rfl, ?yr18a3⟩) hH ?rr18a3
                    case yr18a3 => intro w' hS'; go_simp; try with_reducible rfl
                    try simp only [zA]
                    refine oneH 10 (oi := _) (some 11) (by kernel_rfl) rfl rfl rfl (fun K' hK => ?_)
                    have h1 := Ext.new (Below.refl wA.heap.size wA) (.cells #[.int .i64 0, .slice none 0 0] 54)
                    obtain ⟨q, hq⟩ : ∃ q, q = wA.heap.size := ⟨_, rfl⟩
                    have bq := Blk.new wA 54 #[.int .i64 0, .slice none 0 0]
                    rw [← hq] at bq
                    have QB := hU (show w.heap.size ≤ q ∧ g ≠ q ∧ q9 ≠ q by have := (hH.2.2.2.2).size; have := hH.1.lt; have := hH.2.1.lt; omega)
                    obtain ⟨wB, hu, h1, bq⟩ : ∃ u, u = wA.alloc (.cells #[.int .i64 0, .slice none 0 0] 54) ∧ Ext wA u ∧ Blk u q 54 #[.int .i64 0, .slice none 0 0] := ⟨_, rfl, h1, bq⟩
                    have HU := hU hu; have HQQ := hU hq
                    clear hu hq
                    refine ⟨?_⟩
                    rw [if_pos (by rfl)]
                    go_simp
                    rw [← HU.out, ← HQQ.out]
                    have BQ := hU bq
                    clear bq
                    replace RV := hU (RowT.ext RV.out h1)
                    refine hK.out _ _ ⟨_, rfl⟩ ⟨((hH.1).ext h1), ((hH.2.1).ext h1), (RowT.ext (hH.2.2.1) h1), (RowT.ext (hH.2.2.2.1) h1), (hH.2.2.2.2.next h1)⟩ (fun hH2 => ?_)
                    clear hK K' hH h1 HU HQQ
                    have hH := hH2
                    clear hH2
                    try simp only [zB]
                    have Tq := hU (BQ.out.there 0 2 (by simp))
                    have hk5 : Frm (fun b => b = q) wB (wB.setCells q 0 [.int .i64 (nL : Int), .slice a PX.length c]) := Frm.setCells (X := fun b => b = q) (Frm.refl _ wB) (g := q) (fun _ => rfl) _ _
                    obtain ⟨w8, hw8, kq8, rv8, ss8⟩ : ∃ w8, w8 = wB.setCells q 0 [.int .i64 (nL : Int), .slice a PX.length c] ∧ Blk w8 q 54 #[.int .i64 (nL : Int), .slice a PX.length c] ∧ RowT w.heap.size w8 (.slice a PX.length c) PX ∧ (Blk w8 g 59 cs.toArray ∧ Blk w8 q9 55 #[.int .i64 LHd.number, .int .i64 LHd.size, .string LHd.root, .int .i64 LHd.taken, .string LHd.takenRoot] ∧ RowT w.heap.size w8 (.slice Al LH.length cl) LH ∧ RowT w.heap.size w8 (.slice At TH.length ct) TH ∧ Ext w w8) :=
                     ⟨_, rfl, BQ.out.put 0 [.int .i64 (nL : Int), .slice a PX.length c] #[.int .i64 (nL : Int), .slice a PX.length c] (by simp) rfl, hk5.own RV.out (fun b hb => RowT.apart RV.out BQ.out (by decide) b hb), ⟨(hH.1).farCells QB.out.2.1 _ _ _, (hH.2.1).farCells QB.out.2.2 _ _ _, hk5.own (hH.2.2.1) (fun b hb => RowT.apart (hH.2.2.1) BQ.out (by decide) b hb), hk5.own (hH.2.2.2.1) (fun b hb => RowT.apart (hH.2.2.2.1) BQ.out (by decide) b hb), ext_setCells (W := w) (g := q) QB.out.1 [.int .i64 (nL : Int), .slice a PX.length c] 0 _ (hH.2.2.2.2)⟩⟩
                    have HW8 := hU hw8
                    refine oneH 11 (oi := _) none (by kernel_rfl) rfl rfl rfl (fun K' hK => ?_)
                    refine ⟨?_⟩
                    rw [if_pos (by rfl)]
                    refine wp_store_lst 54 _ _ rfl rfl q 0 [.int .i64 (nL : Int), .slice a PX.length c] rfl rfl Tq.out (by kernel_rfl) (by rfl) ?_
                    rw [← HW8.out]
                    refine hK.out _ _ ⟨undef, rfl⟩ ss8 (fun hH2 => ?_)
                    clear hK K' hH hk5
                    have hH := hH2
                    clear hH2
                    try simp only [zB]
                    refine takeQ 12 (.bool true) (some 12) rfl rfl (by kernel_rfl) (Or.inl ⟨by rfl, ?yl18a⟩) hH ?rl18a
                    case yl18a => intro w' hS'; go_simp; try with_reducible rfl
                    try simp only [zA]
                    refine wpAnyH_done (by kernel_rfl) ?_ _
                    try go_wp2_with fail
                    go_meet
                    case rel => exact ⟨q, a, c, rfl, kq8, rv8, ss8⟩
                  · skip
                    have h1 := Ext.new (Below.refl w0.heap.size w0) (.cells #[.int .i64 0, .slice none 0 0] 54)
                    obtain ⟨q, hq⟩ : ∃ q, q = w0.heap.size := ⟨_, rfl⟩
                    have bq := Blk.new w0 54 #[.int .i64 0, .slice none 0 0]
                    rw [← hq] at bq
                    have QB := hU (show w.heap.size ≤ q ∧ g ≠ q ∧ q9 ≠ q by have := (hH.2.2.2.2).size; have := hH.1.lt; have := hH.2.1.lt; omega)
                    obtain ⟨wQ, hu, h1, bq⟩ : ∃ u, u = w0.alloc (.cells #[.int .i64 0, .slice none 0 0] 54) ∧ Ext w0 u ∧ Blk u q 54 #[.int .i64 0, .slice none 0 0] := ⟨_, rfl, h1, bq⟩
                    have HU := hU hu; have HQQ := hU hq
                    clear hu hq
                    refine ⟨?_⟩
                    rw [if_pos (by rfl)]
                    go_simp
                    rw [← HU.out, ← HQQ.out]
                    have BQ := hU bq
                    clear bq
                    refine hK.out _ _ ⟨_, rfl⟩ ⟨((hH.1).ext h1), ((hH.2.1).ext h1), (RowT.ext (hH.2.2.1) h1), (RowT.ext (hH.2.2.2.1) h1), (hH.2.2.2.2.next h1)⟩ (fun hH2 => ?_)
                    clear hK K' hH h1 HU HQQ
                    have hH := hH2
                    clear hH2
                    try simp only [zB]
                    refine oneH 6 (oi := _) (some 152) (by kernel_rfl) rfl rfl rfl (fun K' hK => ?_)
                    refine ⟨?_⟩
                    rw [if_pos (by rfl)]
                    go_simp
                    refine (CR1.out _ hH.2.2.1).mono ?_
                    rintro e wA ⟨v, rfl, hrow, h1⟩
                    have hrow2 := ownsRow_base hrow (hH.2.2.2.2).size
                    obtain ⟨a, c, hvf, _⟩ := ownsRow_form hrow2
                    subst hvf
                    have RV := hU (show RowT w.heap.size wA (.slice a PX.length c) PX from hrow2)
                    clear hrow hrow2
                    replace BQ := hU (BQ.out.ext h1)
                    refine hK.out _ _ ⟨_, rfl⟩ ⟨((hH.1).ext h1), ((hH.2.1).ext h1), (RowT.ext (hH.2.2.1) h1), (RowT.ext (hH.2.2.2.1) h1), (hH.2.2.2.2.next h1)⟩ (fun hH2 => ?_)
                    clear hK K' hH h1
                    have hH := hH2
                    clear hH2
                    try simp only [zB]
                    refine takeQ 7 (.tuple #[.agg #[.int .i64 (nL : Int), .slice a PX.length c], .bool true]) (some 145) rfl rfl (by kernel_rfl) (Or.inl ⟨by rfl, ?yr18b1⟩) hH ?rr18b1
                    case yr18b1 => intro w' hS'; obtain ⟨s0, s1, s2, s3, s4⟩ := hS'; obtain ⟨x0, x1, x2, x3⟩ := BH.out _ _ s0; obtain ⟨r1, f1⟩ := s1.rules; go_simp; try with_reducible rfl
                    try simp only [zA]
                    refine takeQ 8 (.agg #[.int .i64 (nL : Int), .slice a PX.length c]) (some 153) rfl rfl (by kernel_rfl) (Or.inl ⟨by rfl, ?yr18b2⟩) hH ?rr18b2
                    case yr18b2 => intro w' hS'; obtain ⟨s0, s1, s2, s3, s4⟩ := hS'; obtain ⟨x0, x1, x2, x3⟩ := BH.out _ _ s0; obtain ⟨r1, f1⟩ := s1.rules; go_simp; try with_reducible rfl
                    try simp only [zA]
                    refine takeQ 9 (.bool true) (some 154) rfl rfl (by kernel_rfl) (Or.inl ⟨by rfl, ?yr18b3⟩) hH ?rr18b3
                    case yr18b3 => intro w' hS'; go_simp; try with_reducible rfl
                    try simp only [zA]
                    have Tq := hU (BQ.out.there 0 2 (by simp))
                    have hk5 : Frm (fun b => b = q) wA (wA.setCells q 0 [.int .i64 (nL : Int), .slice a PX.length c]) := Frm.setCells (X := fun b => b = q) (Frm.refl _ wA) (g := q) (fun _ => rfl) _ _
                    obtain ⟨w8, hw8, kq8, rv8, ss8⟩ : ∃ w8, w8 = wA.setCells q 0 [.int .i64 (nL : Int), .slice a PX.length c] ∧ Blk w8 q 54 #[.int .i64 (nL : Int), .slice a PX.length c] ∧ RowT w.heap.size w8 (.slice a PX.length c) PX ∧ (Blk w8 g 59 cs.toArray ∧ Blk w8 q9 55 #[.int .i64 LHd.number, .int .i64 LHd.size, .string LHd.root, .int .i64 LHd.taken, .string LHd.takenRoot] ∧ RowT w.heap.size w8 (.slice Al LH.length cl) LH ∧ RowT w.heap.size w8 (.slice At TH.length ct) TH ∧ Ext w w8) :=
                     ⟨_, rfl, BQ.out.put 0 [.int .i64 (nL : Int), .slice a PX.length c] #[.int .i64 (nL : Int), .slice a PX.length c] (by simp) rfl, hk5.own RV.out (fun b hb => RowT.apart RV.out BQ.out (by decide) b hb), ⟨(hH.1).farCells QB.out.2.1 _ _ _, (hH.2.1).farCells QB.out.2.2 _ _ _, hk5.own (hH.2.2.1) (fun b hb => RowT.apart (hH.2.2.1) BQ.out (by decide) b hb), hk5.own (hH.2.2.2.1) (fun b hb => RowT.apart (hH.2.2.2.1) BQ.out (by decide) b hb), ext_setCells (W := w) (g := q) QB.out.1 [.int .i64 (nL : Int), .slice a PX.length c] 0 _ (hH.2.2.2.2)⟩⟩
                    have HW8 := hU hw8
                    refine oneH 11 (oi := _) none (by kernel_rfl) rfl rfl rfl (fun K' hK => ?_)
                    refine ⟨?_⟩
                    rw [if_pos (by rfl)]
                    refine wp_store_lst 54 _ _ rfl rfl q 0 [.int .i64 (nL : Int), .slice a PX.length c] rfl rfl Tq.out (by kernel_rfl) (by rfl) ?_
                    rw [← HW8.out]
                    refine hK.out _ _ ⟨undef, rfl⟩ ss8 (fun hH2 => ?_)
                    clear hK K' hH hk5
                    have hH := hH2
                    clear hH2
                    try simp only [zB]
                    refine takeQ 12 (.bool true) (some 12) rfl rfl (by kernel_rfl) (Or.inl ⟨by rfl, ?yl18b⟩) hH ?rl18b
                    case yl18b => intro w' hS'; go_simp; try with_reducible rfl
                    try simp only [zA]
                    refine wpAnyH_done (by kernel_rfl) ?_ _
                    try go_wp2_with fail
                    go_meet
                    case rel => exact ⟨q, a, c, rfl, kq8, rv8, ss8⟩
                 case rest =>
                 obtain ⟨qx, ax, cx, rfl, kx, rx, kb, kq, rl, rt, he⟩ := hcut
                 obtain ⟨wn18, rfl⟩ := blk_name kb
                 have KX := hU kx; have RX := hU rx; have KB := hU kb; have KQ := hU kq; have RL := hU rl; have RT := hU rt; have HE := hU he
                 clear kx rx kb kq rl rt he
                 go_upto_region 19 with fail
                 go_cut [13, 14] (fun v1 v2 wx => ∃ (q : Nat) (a : Option Addr) (c : Nat), v1 = .pointer (some ⟨q, 0, none⟩) ∧ Blk wx q 54 #[.int .i64 (nT : Int), .slice a PY.length c] ∧ RowT w.heap.size wx (.slice a PY.length c) PY ∧ Blk wx g 59 cs.toArray ∧ Blk wx q9 55 #[.int .i64 LHd.number, .int .i64 LHd.size, .string LHd.root, .int .i64 LHd.taken, .string LHd.takenRoot] ∧ RowT w.heap.size wx (.slice Al LH.length cl) LH ∧ RowT w.heap.size wx (.slice At TH.length ct) TH ∧ Ext w wx ∧ Blk wx qx 54 #[.int .i64 (nL : Int), .slice ax PX.length cx] ∧ RowT w.heap.size wx (.slice ax PX.length cx) PX)
                 case first =>
                  have SL := SL2.out
                  refine wp_region_held_drew (S := fun w' => Blk w' g 59 cs.toArray ∧ Blk w' q9 55 #[.int .i64 LHd.number, .int .i64 LHd.size, .string LHd.root, .int .i64 LHd.taken, .string LHd.takenRoot] ∧ RowT w.heap.size w' (.slice Al LH.length cl) LH ∧ RowT w.heap.size w' (.slice At TH.length ct) TH ∧ Ext w w' ∧ Blk w' qx 54 #[.int .i64 (nL : Int), .slice ax PX.length cx] ∧ RowT w.heap.size w' (.slice ax PX.length cx) PX) (by kernel_rfl) ⟨KB.out.drew, KQ.out.drew, RL.out, RT.out, HE.out.drew, KX.out.drew, RX.out⟩ (fun hH => ?_)
                  clear KB KQ RL RT HE KX RX
                  generalize wn18.drew = w0 at *
                  refine takeQ 0 (.pointer (some ⟨g, 0, none⟩)) (some 156) rfl rfl (by kernel_rfl) (Or.inl ⟨by rfl, ?yr191⟩) hH ?rr191
                  case yr191 => intro w' hS'; go_simp; try with_reducible rfl
                  try simp only [zA]
                  refine takeQ 1 (.int .i64 b.width) (some 157) rfl rfl (by kernel_rfl) (Or.inl ⟨by rfl, ?yr192⟩) hH ?rr192
                  case yr192 => intro w' hS'; obtain ⟨s0, s1, s2, s3, s4, s5, s6⟩ := hS'; obtain ⟨x0, x1, x2, x3⟩ := BH.out _ _ s0; obtain ⟨r1, f1⟩ := s1.rules; go_simp; try with_reducible rfl
                  try simp only [zA]
                  refine takeQ 2 (.slice At TH.length ct) (some 158) rfl rfl (by kernel_rfl) (Or.inl ⟨by rfl, ?yr193⟩) hH ?rr193
                  case yr193 => intro w' hS'; obtain ⟨s0, s1, s2, s3, s4, s5, s6⟩ := hS'; obtain ⟨x0, x1, x2, x3⟩ := BH.out _ _ s0; obtain ⟨r1, f1⟩ := s1.rules; go_simp; try with_reducible rfl
                  try simp only [zA]
                  refine takeQ 3 (.pointer (some ⟨q9, 3, none⟩)) (some 159) rfl rfl (by kernel_rfl) (Or.inl ⟨by rfl, ?yr194⟩) hH ?rr194
                  case yr194 => intro w' hS'; go_simp; try with_reducible rfl
                  try simp only [zA]
                  refine takeQ 4 (.int .i64 LHd.taken) (some 160) rfl rfl (by kernel_rfl) (Or.inl ⟨by rfl, ?yr195⟩) hH ?rr195
                  case yr195 => intro w' hS'; obtain ⟨s0, s1, s2, s3, s4, s5, s6⟩ := hS'; obtain ⟨x0, x1, x2, x3⟩ := BH.out _ _ s0; obtain ⟨r1, f1⟩ := s1.rules; go_simp; try with_reducible rfl
                  try simp only [zA]
                  refine takeQ 5 (.slice At nT ct) (some 161) rfl rfl (by kernel_rfl) (Or.inl ⟨by rfl, ?yr196⟩) hH ?rr196
                  case yr196 => intro w' hS'; obtain ⟨s0, s1, s2, s3, s4, s5, s6⟩ := hS'; obtain ⟨x0, x1, x2, x3⟩ := BH.out _ _ s0; obtain ⟨r1, f1⟩ := s1.rules; go_simp; try with_reducible rfl
                  try simp only [zA]
                  refine twoH 6 10 (oi := _) (oj := _) (some 162) (some 13) (by kernel_rfl) rfl rfl rfl rfl rfl rfl (fun K' hK => ?_) (fun K' hK => ?_)
                  · skip
                    refine ⟨?_⟩
                    rw [if_pos (by rfl)]
                    go_simp
                    refine (CR2.out _ hH.2.2.2.1).mono ?_
                    rintro e wA ⟨v, rfl, hrow, h1⟩
                    have hrow2 := ownsRow_base hrow (hH.2.2.2.2.1).size
                    obtain ⟨a, c, hvf, _⟩ := ownsRow_form hrow2
                    subst hvf
                    have RV := hU (show RowT w.heap.size wA (.slice a PY.length c) PY from hrow2)
                    clear hrow hrow2
                    refine hK.out _ _ ⟨_, rfl⟩ ⟨((hH.1).ext h1), ((hH.2.1).ext h1), (RowT.ext (hH.2.2.1) h1), (RowT.ext (hH.2.2.2.1) h1), (hH.2.2.2.2.1.next h1), ((hH.2.2.2.2.2.1).ext h1), (RowT.ext (hH.2.2.2.2.2.2) h1)⟩ (fun hH2 => ?_)
                    clear hK K' hH h1
                    have hH := hH2
                    clear hH2
                    try simp only [zB]
                    refine takeQ 7 (.tuple #[.agg #[.int .i64 (nT : Int), .slice a PY.length c], .bool true]) (some 155) rfl rfl (by kernel_rfl) (Or.inl ⟨by rfl, ?yr19a1⟩) hH ?rr19a1
                    case yr19a1 => intro w' hS'; obtain ⟨s0, s1, s2, s3, s4, s5, s6⟩ := hS'; obtain ⟨x0, x1, x2, x3⟩ := BH.out _ _ s0; obtain ⟨r1, f1⟩ := s1.rules; go_simp; try with_reducible rfl
                    try simp only [zA]
                    refine takeQ 8 (.agg #[.int .i64 (nT : Int), .slice a PY.length c]) (some 163) rfl rfl (by kernel_rfl) (Or.inl ⟨by rfl, ?yr19a2⟩) hH ?rr19a2
                    case yr19a2 => intro w' hS'; obtain ⟨s0, s1, s2, s3, s4, s5, s6⟩ := hS'; obtain ⟨x0, x1, x2, x3⟩ := BH.out _ _ s0; obtain ⟨r1, f1⟩ := s1.rules; go_simp; try with_reducible rfl
                    try simp only [zA]
                    refine takeQ 9 (.bool true) (some 164) rfl rfl (by kernel_rfl) (Or.inl ⟨by rfl, ?yr19a3⟩) hH ?rr19a3
                    case yr19a3 => intro w' hS'; go_simp; try with_reducible rfl
                    try simp only [zA]
                    refine oneH 10 (oi := _) (some 13) (by kernel_rfl) rfl rfl rfl (fun K' hK => ?_)
                    have h1 := Ext.new (Below.refl wA.heap.size wA) (.cells #[.int .i64 0, .slice none 0 0] 54)
                    obtain ⟨q, hq⟩ : ∃ q, q = wA.heap.size := ⟨_, rfl⟩
                    have bq := Blk.new wA 54 #[.int .i64 0, .slice none 0 0]
                    rw [← hq] at bq
                    have QB := hU (show w.heap.size ≤ q ∧ g ≠ q ∧ q9 ≠ q ∧ qx ≠ q by have := (hH.2.2.2.2.1).size; have := hH.1.lt; have := hH.2.1.lt; have := (hH.2.2.2.2.2.1).lt; omega)
                    obtain ⟨wB, hu, h1, bq⟩ : ∃ u, u = wA.alloc (.cells #[.int .i64 0, .slice none 0 0] 54) ∧ Ext wA u ∧ Blk u q 54 #[.int .i64 0, .slice none 0 0] := ⟨_, rfl, h1, bq⟩
                    have HU := hU hu; have HQQ := hU hq
                    clear hu hq
                    refine ⟨?_⟩
                    rw [if_pos (by rfl)]
                    go_simp
                    rw [← HU.out, ← HQQ.out]
                    have BQ := hU bq
                    clear bq
                    replace RV := hU (RowT.ext RV.out h1)
                    refine hK.out _ _ ⟨_, rfl⟩ ⟨((hH.1).ext h1), ((hH.2.1).ext h1), (RowT.ext (hH.2.2.1) h1), (RowT.ext (hH.2.2.2.1) h1), (hH.2.2.2.2.1.next h1), ((hH.2.2.2.2.2.1).ext h1), (RowT.ext (hH.2.2.2.2.2.2) h1)⟩ (fun hH2 => ?_)
                    clear hK K' hH h1 HU HQQ
                    have hH := hH2
                    clear hH2
                    try simp only [zB]
                    have Tq := hU (BQ.out.there 0 2 (by simp))
                    have hk5 : Frm (fun b => b = q) wB (wB.setCells q 0 [.int .i64 (nT : Int), .slice a PY.length c]) := Frm.setCells (X := fun b => b = q) (Frm.refl _ wB) (g := q) (fun _ => rfl) _ _
                    obtain ⟨w8, hw8, kq8, rv8, ss8⟩ : ∃ w8, w8 = wB.setCells q 0 [.int .i64 (nT : Int), .slice a PY.length c] ∧ Blk w8 q 54 #[.int .i64 (nT : Int), .slice a PY.length c] ∧ RowT w.heap.size w8 (.slice a PY.length c) PY ∧ (Blk w8 g 59 cs.toArray ∧ Blk w8 q9 55 #[.int .i64 LHd.number, .int .i64 LHd.size, .string LHd.root, .int .i64 LHd.taken, .string LHd.takenRoot] ∧ RowT w.heap.size w8 (.slice Al LH.length cl) LH ∧ RowT w.heap.size w8 (.slice At TH.length ct) TH ∧ Ext w w8 ∧ Blk w8 qx 54 #[.int .i64 (nL : Int), .slice ax PX.length cx] ∧ RowT w.heap.size w8 (.slice ax PX.length cx) PX) :=
                     ⟨_, rfl, BQ.out.put 0 [.int .i64 (nT : Int), .slice a PY.length c] #[.int .i64 (nT : Int), .slice a PY.length c] (by simp) rfl, hk5.own RV.out (fun b hb => RowT.apart RV.out BQ.out (by decide) b hb), ⟨(hH.1).farCells QB.out.2.1 _ _ _, (hH.2.1).farCells QB.out.2.2.1 _ _ _, hk5.own (hH.2.2.1) (fun b hb => RowT.apart (hH.2.2.1) BQ.out (by decide) b hb), hk5.own (hH.2.2.2.1) (fun b hb => RowT.apart (hH.2.2.2.1) BQ.out (by decide) b hb), ext_setCells (W := w) (g := q) QB.out.1 [.int .i64 (nT : Int), .slice a PY.length c] 0 _ (hH.2.2.2.2.1), (hH.2.2.2.2.2.1).farCells QB.out.2.2.2 _ _ _, hk5.own (hH.2.2.2.2.2.2) (fun b hb => RowT.apart (hH.2.2.2.2.2.2) BQ.out (by decide) b hb)⟩⟩
                    have HW8 := hU hw8
                    refine oneH 11 (oi := _) none (by kernel_rfl) rfl rfl rfl (fun K' hK => ?_)
                    refine ⟨?_⟩
                    rw [if_pos (by rfl)]
                    refine wp_store_lst 54 _ _ rfl rfl q 0 [.int .i64 (nT : Int), .slice a PY.length c] rfl rfl Tq.out (by kernel_rfl) (by rfl) ?_
                    rw [← HW8.out]
                    refine hK.out _ _ ⟨undef, rfl⟩ ss8 (fun hH2 => ?_)
                    clear hK K' hH hk5
                    have hH := hH2
                    clear hH2
                    try simp only [zB]
                    refine takeQ 12 (.bool true) (some 14) rfl rfl (by kernel_rfl) (Or.inl ⟨by rfl, ?yl19a⟩) hH ?rl19a
                    case yl19a => intro w' hS'; go_simp; try with_reducible rfl
                    try simp only [zA]
                    refine wpAnyH_done (by kernel_rfl) ?_ _
                    try go_wp2_with fail
                    go_meet
                    case rel => exact ⟨q, a, c, rfl, kq8, rv8, ss8⟩
                  · skip
                    have h1 := Ext.new (Below.refl w0.heap.size w0) (.cells #[.int .i64 0, .slice none 0 0] 54)
                    obtain ⟨q, hq⟩ : ∃ q, q = w0.heap.size := ⟨_, rfl⟩
                    have bq := Blk.new w0 54 #[.int .i64 0, .slice none 0 0]
                    rw [← hq] at bq
                    have QB := hU (show w.heap.size ≤ q ∧ g ≠ q ∧ q9 ≠ q ∧ qx ≠ q by have := (hH.2.2.2.2.1).size; have := hH.1.lt; have := hH.2.1.lt; have := (hH.2.2.2.2.2.1).lt; omega)
                    obtain ⟨wQ, hu, h1, bq⟩ : ∃ u, u = w0.alloc (.cells #[.int .i64 0, .slice none 0 0] 54) ∧ Ext w0 u ∧ Blk u q 54 #[.int .i64 0, .slice none 0 0] := ⟨_, rfl, h1, bq⟩
                    have HU := hU hu; have HQQ := hU hq
                    clear hu hq
                    refine ⟨?_⟩
                    rw [if_pos (by rfl)]
                    go_simp
                    rw [← HU.out, ← HQQ.out]
                    have BQ := hU bq
                    clear bq
                    refine hK.out _ _ ⟨_, rfl⟩ ⟨((hH.1).ext h1), ((hH.2.1).ext h1), (RowT.ext (hH.2.2.1) h1), (RowT.ext (hH.2.2.2.1) h1), (hH.2.2.2.2.1.next h1), ((hH.2.2.2.2.2.1).ext h1), (RowT.ext (hH.2.2.2.2.2.2) h1)⟩ (fun hH2 => ?_)
                    clear hK K' hH h1 HU HQQ
                    have hH := hH2
                    clear hH2
                    try simp only [zB]
                    refine oneH 6 (oi := _) (some 162) (by kernel_rfl) rfl rfl rfl (fun K' hK => ?_)
                    refine ⟨?_⟩
                    rw [if_pos (by rfl)]
                    go_simp
                    refine (CR2.out _ hH.2.2.2.1).mono ?_
                    rintro e wA ⟨v, rfl, hrow, h1⟩
                    have hrow2 := ownsRow_base hrow (hH.2.2.2.2.1).size
                    obtain ⟨a, c, hvf, _⟩ := ownsRow_form hrow2
                    subst hvf
                    have RV := hU (show RowT w.heap.size wA (.slice a PY.length c) PY from hrow2)
                    clear hrow hrow2
                    replace BQ := hU (BQ.out.ext h1)
                    refine hK.out _ _ ⟨_, rfl⟩ ⟨((hH.1).ext h1), ((hH.2.1).ext h1), (RowT.ext (hH.2.2.1) h1), (RowT.ext (hH.2.2.2.1) h1), (hH.2.2.2.2.1.next h1), ((hH.2.2.2.2.2.1).ext h1), (RowT.ext (hH.2.2.2.2.2.2) h1)⟩ (fun hH2 => ?_)
                    clear hK K' hH h1
                    have hH := hH2
                    clear hH2
                    try simp only [zB]
                    refine takeQ 7 (.tuple #[.agg #[.int .i64 (nT : Int), .slice a PY.length c], .bool true]) (some 155) rfl rfl (by kernel_rfl) (Or.inl ⟨by rfl, ?yr19b1⟩) hH ?rr19b1
                    case yr19b1 => intro w' hS'; obtain ⟨s0, s1, s2, s3, s4, s5, s6⟩ := hS'; obtain ⟨x0, x1, x2, x3⟩ := BH.out _ _ s0; obtain ⟨r1, f1⟩ := s1.rules; go_simp; try with_reducible rfl
                    try simp only [zA]
                    refine takeQ 8 (.agg #[.int .i64 (nT : Int), .slice a PY.length c]) (some 163) rfl rfl (by kernel_rfl) (Or.inl ⟨by rfl, ?yr19b2⟩) hH ?rr19b2
                    case yr19b2 => intro w' hS'; obtain ⟨s0, s1, s2, s3, s4, s5, s6⟩ := hS'; obtain ⟨x0, x1, x2, x3⟩ := BH.out _ _ s0; obtain ⟨r1, f1⟩ := s1.rules; go_simp; try with_reducible rfl
                    try simp only [zA]
                    refine takeQ 9 (.bool true) (some 164) rfl rfl (by kernel_rfl) (Or.inl ⟨by rfl, ?yr19b3⟩) hH ?rr19b3
                    case yr19b3 => intro w' hS'; go_simp; try with_reducible rfl
                    try simp only [zA]
                    have Tq := hU (BQ.out.there 0 2 (by simp))
                    have hk5 : Frm (fun b => b = q) wA (wA.setCells q 0 [.int .i64 (nT : Int), .slice a PY.length c]) := Frm.setCells (X := fun b => b = q) (Frm.refl _ wA) (g := q) (fun _ => rfl) _ _
                    obtain ⟨w8, hw8, kq8, rv8, ss8⟩ : ∃ w8, w8 = wA.setCells q 0 [.int .i64 (nT : Int), .slice a PY.length c] ∧ Blk w8 q 54 #[.int .i64 (nT : Int), .slice a PY.length c] ∧ RowT w.heap.size w8 (.slice a PY.length c) PY ∧ (Blk w8 g 59 cs.toArray ∧ Blk w8 q9 55 #[.int .i64 LHd.number, .int .i64 LHd.size, .string LHd.root, .int .i64 LHd.taken, .string LHd.takenRoot] ∧ RowT w.heap.size w8 (.slice Al LH.length cl) LH ∧ RowT w.heap.size w8 (.slice At TH.length ct) TH ∧ Ext w w8 ∧ Blk w8 qx 54 #[.int .i64 (nL : Int), .slice ax PX.length cx] ∧ RowT w.heap.size w8 (.slice ax PX.length cx) PX) :=
                     ⟨_, rfl, BQ.out.put 0 [.int .i64 (nT : Int), .slice a PY.length c] #[.int .i64 (nT : Int), .slice a PY.length c] (by simp) rfl, hk5.own RV.out (fun b hb => RowT.apart RV.out BQ.out (by decide) b hb), ⟨(hH.1).farCells QB.out.2.1 _ _ _, (hH.2.1).farCells QB.out.2.2.1 _ _ _, hk5.own (hH.2.2.1) (fun b hb => RowT.apart (hH.2.2.1) BQ.out (by decide) b hb), hk5.own (hH.2.2.2.1) (fun b hb => RowT.apart (hH.2.2.2.1) BQ.out (by decide) b hb), ext_setCells (W := w) (g := q) QB.out.1 [.int .i64 (nT : Int), .slice a PY.length c] 0 _ (hH.2.2.2.2.1), (hH.2.2.2.2.2.1).farCells QB.out.2.2.2 _ _ _, hk5.own (hH.2.2.2.2.2.2) (fun b hb => RowT.apart (hH.2.2.2.2.2.2) BQ.out (by decide) b hb)⟩⟩
                    have HW8 := hU hw8
                    refine oneH 11 (oi := _) none (by kernel_rfl) rfl rfl rfl (fun K' hK => ?_)
                    refine ⟨?_⟩
                    rw [if_pos (by rfl)]
                    refine wp_store_lst 54 _ _ rfl rfl q 0 [.int .i64 (nT : Int), .slice a PY.length c] rfl rfl Tq.out (by kernel_rfl) (by rfl) ?_
                    rw [← HW8.out]
                    refine hK.out _ _ ⟨undef, rfl⟩ ss8 (fun hH2 => ?_)
                    clear hK K' hH hk5
                    have hH := hH2
                    clear hH2
                    try simp only [zB]
                    refine takeQ 12 (.bool true) (some 14) rfl rfl (by kernel_rfl) (Or.inl ⟨by rfl, ?yl19b⟩) hH ?rl19b
                    case yl19b => intro w' hS'; go_simp; try with_reducible rfl
                    try simp only [zA]
                    refine wpAnyH_done (by kernel_rfl) ?_ _
                    try go_wp2_with fail
                    go_meet
                    case rel => exact ⟨q, a, c, rfl, kq8, rv8, ss8⟩
                 case rest =>
                 obtain ⟨qy, ay, cy, rfl, ky, ry, kb, kq, rl, rt, he, kx, rx⟩ := hcut
                 obtain ⟨wn19, rfl⟩ := blk_name kb
                 have KY := hU ky; have RY := hU ry; have KX := hU kx; have RX := hU rx; have KB := hU kb; have KQ := hU kq; have RL := hU rl; have RT := hU rt; have HE := hU he
                 clear ky ry kx rx kb kq rl rt he
                 have kbb := KB.out
                 rw [HCS.out] at kbb
                 obtain ⟨x0, x1, x2, x3⟩ := BH.out _ _ KB.out
                 have y0 : wn19.cell? ⟨g, 4, none⟩ = some (.int .i64 b.sealed.leaves.size) := kbb.cell 4
                 have y1 : wn19.cell? ⟨g, 5, none⟩ = some (.slice A3 b.sealed.leaves.peaks.length c3) := kbb.cell 5
                 have y2 : wn19.cell? ⟨g, 6, none⟩ = some (.int .i64 b.sealed.taken.size) := kbb.cell 6
                 have y3 : wn19.cell? ⟨g, 7, none⟩ = some (.slice A4 b.sealed.taken.peaks.length c4) := kbb.cell 7
                 have y4 : wn19.cell? ⟨g, 8, none⟩ = some (.int .i64 b.sealed.head.number) := kbb.cell 8
                 have y5 : wn19.cell? ⟨g, 9, none⟩ = some (.int .i64 b.sealed.head.size) := kbb.cell 9
                 have y6 : wn19.cell? ⟨g, 10, none⟩ = some (.string b.sealed.head.root) := kbb.cell 10
                 have y7 : wn19.cell? ⟨g, 11, none⟩ = some (.int .i64 b.sealed.head.taken) := kbb.cell 11
                 have y8 : wn19.cell? ⟨g, 12, none⟩ = some (.string b.sealed.head.takenRoot) := kbb.cell 12
                 have CS := hU (SealOk_any b.width b.sealed A3 c3 A4 c4 wn19 (S3.out.ext HE.out).reads (S4.out.ext HE.out).reads l3 l4)
                 simp only [sealV] at CS
                 clear kbb
                 go_wp2_with fail
                 refine CS.out.mono ?_
                 rintro e wk ⟨rfl, h1⟩
                 replace KX := hU (KX.out.ext h1); replace RX := hU (RowT.ext RX.out h1); replace KY := hU (KY.out.ext h1); replace RY := hU (RowT.ext RY.out h1); replace KB := hU (KB.out.ext h1); replace KQ := hU (KQ.out.ext h1); replace HE := hU (HE.out.next h1)
                 clear h1 x0 x1 x2 x3 y0 y1 y2 y3 y4 y5 y6 y7 y8 CS
                 have BS2 := hU (show fin = (sealOkB b.width b.sealed && b.sealed.head.eqb LHd && sameRangeB b.sealed.leaves ⟨(nL : Int), PX⟩ && sameRangeB b.sealed.taken ⟨(nT : Int), PY⟩) by
                  have lz : LHd.size.toNat = nL := by have := LS.out.1; omega
                  have tz : LHd.taken.toNat = nT := by have := LS.out.2.1; omega
                  have tkL : (LH.take nL).length = nL := by rw [List.length_take]; have := LS.out.2.2.1; omega
                  have tkT : (TH.take nT).length = nT := by rw [List.length_take]; have := LS.out.2.2.2; omega
                  rw [FN.out, ← BS.out, ← HLH.out, ← HTH.out, ← HLHd.out, lz, tz, HPX.out, HPY.out]
                  unfold rangeOf
                  rw [tkL, tkT])
                 obtain ⟨z1, hz1⟩ : ∃ z1, z1 = sealOkB b.width b.sealed := ⟨_, rfl⟩
                 rw [← hz1] at BS2
                 rw [← hz1]
                 clear hz1
                 have kbb := KB.out
                 rw [HCS.out] at kbb
                 have y0 : wk.cell? ⟨g, 4, none⟩ = some (.int .i64 b.sealed.leaves.size) := kbb.cell 4
                 have y1 : wk.cell? ⟨g, 5, none⟩ = some (.slice A3 b.sealed.leaves.peaks.length c3) := kbb.cell 5
                 have y2 : wk.cell? ⟨g, 6, none⟩ = some (.int .i64 b.sealed.taken.size) := kbb.cell 6
                 have y3 : wk.cell? ⟨g, 7, none⟩ = some (.slice A4 b.sealed.taken.peaks.length c4) := kbb.cell 7
                 have y4 : wk.cell? ⟨g, 8, none⟩ = some (.int .i64 b.sealed.head.number) := kbb.cell 8
                 have y5 : wk.cell? ⟨g, 9, none⟩ = some (.int .i64 b.sealed.head.size) := kbb.cell 9
                 have y6 : wk.cell? ⟨g, 10, none⟩ = some (.string b.sealed.head.root) := kbb.cell 10
                 have y7 : wk.cell? ⟨g, 11, none⟩ = some (.int .i64 b.sealed.head.taken) := kbb.cell 11
                 have y8 : wk.cell? ⟨g, 12, none⟩ = some (.string b.sealed.head.takenRoot) := kbb.cell 12
                 clear kbb
                 cases z1
                 · have E := hU (show fin = false by rw [BS2.out]; rfl)
                   go_wp2_with fail
                   go_ret
                   exact ⟨ret_bool E.out.symm, HE.out⟩
                 have HQ := HeadD.run_eql b.sealed.head LHd
                 obtain ⟨rq, fq⟩ := KQ.out.rules
                 cases z2 : b.sealed.head.eqb LHd
                 · have E := hU (show fin = false by rw [BS2.out, z2]; simp)
                   go_wp2_with fail
                   go_ret
                   exact ⟨ret_bool E.out.symm, HE.out⟩
                 obtain ⟨rx, fx⟩ := KX.out.rules
                 have C1 := hU (l12SameRange_any A3 ax c3 cx b.sealed.leaves ⟨(nL : Int), PX⟩ wk (S3.out.ext HE.out).reads (Reads.of_own (c := cx) RX.out) l3 (by have h1 := pc_le (LH.take nL).length; rw [HPX.out, List.length_reverse, peaks_len]; rw [List.length_take] at h1 ⊢; omega))
                 go_wp2_with fail
                 refine C1.out.mono ?_
                 rintro e wl ⟨rfl, h1⟩
                 have yy2 := (h1.cell (p := ⟨g, 6, none⟩) KB.out.lt).trans y2
                 have yy3 := (h1.cell (p := ⟨g, 7, none⟩) KB.out.lt).trans y3
                 replace KY := hU (KY.out.ext h1); replace RY := hU (RowT.ext RY.out h1); replace HE := hU (HE.out.next h1)
                 clear h1 rx fx rq fq y0 y1 y2 y3 y4 y5 y6 y7 y8 C1 HQ
                 cases z3 : sameRangeB b.sealed.leaves ⟨(nL : Int), PX⟩
                 · have E := hU (show fin = false by rw [BS2.out, z2, z3]; simp)
                   go_wp2_with fail
                   go_ret
                   exact ⟨ret_bool E.out.symm, HE.out⟩
                 have E := hU (show fin = sameRangeB b.sealed.taken ⟨(nT : Int), PY⟩ by rw [BS2.out, z2, z3]; rfl)
                 obtain ⟨ry, fy⟩ := KY.out.rules
                 have C2 := hU (l12SameRange_any A4 ay c4 cy b.sealed.taken ⟨(nT : Int), PY⟩ wl (S4.out.ext HE.out).reads (Reads.of_own (c := cy) RY.out) l4 (by have h1 := pc_le (TH.take nT).length; rw [HPY.out, List.length_reverse, peaks_len]; rw [List.length_take] at h1 ⊢; omega))
                 go_wp2_with fail
                 refine C2.out.mono ?_
                 rintro e wm ⟨rfl, h1⟩
                 have he := HE.out.next h1
                 rw [← E.out]
                 clear h1 ry fy yy2 yy3 z2 z3 C2
                 go_wp2_with fail
                 go_ret
                 exact ⟨rfl, he⟩
                obtain ⟨br, orr, hA1, hbr, hcr⟩ := Reads.at_ S1.out.reads (k := k2) (by rw [← N1.out]; exact hlt2)
                obtain ⟨r, hr⟩ : ∃ r, b.receipts[k2]? = some r := ⟨b.receipts[k2]'(by rw [← N1.out]; exact hlt2), List.getElem?_eq_getElem _⟩
                obtain ⟨_, z1, z2⟩ := rec_at hcr hr
                have CR := hU (fun (W : World) (hW : Ext w W) => And.intro ((hW.cell (p := ⟨br, orr + k2 * 3 + 1, none⟩) hbr).trans z1) ((hW.cell (p := ⟨br, orr + k2 * 3 + 2, none⟩) hbr).trans z2))
                have RA := hU (show readAt b k2 = decide (0 ≤ idxB (ofTI r.topic r.index) (b.log.entries.take nL)) by rw [readAt, hr, ← HLHd.out]; simp only [LS.out.1, Int.toNat_natCast])
                subst hA1
                clear hcr hr z1 z2
                go_wp2_with fail
                refine wp_region_held_drew (S := fun w' => Blk w' g 59 cs.toArray ∧ Blk w' q9 55 #[.int .i64 LHd.number, .int .i64 LHd.size, .string LHd.root, .int .i64 LHd.taken, .string LHd.takenRoot] ∧ RowT w.heap.size w' (.slice Al LH.length cl) LH ∧ RowT w.heap.size w' (.slice At TH.length ct) TH ∧ Ext w w') (by kernel_rfl) ⟨KB.out.drew, KQ.out.drew, RL.out, RT.out, HE.out.drew⟩ (fun hH => ?_)
                clear KB KQ RL RT HE x0 x1 x2 x3
                have SL := SLE.out
                refine takeQ 0 (.pointer (some ⟨g, 1, none⟩)) (some 125) rfl rfl (by kernel_rfl) (Or.inl ⟨by rfl, ?yru1⟩) hH ?rru1
                case yru1 => intro w' hS'; go_simp; try with_reducible rfl
                try simp only [zA]
                refine takeQ 1 (.pointer (some ⟨g, 1, none⟩)) (some 126) rfl rfl (by kernel_rfl) (Or.inl ⟨by rfl, ?yru2⟩) hH ?rru2
                case yru2 => intro w' hS'; go_simp; try with_reducible rfl
                try simp only [zA]
                refine takeQ 2 (.slice A0 n0 c0) (some 127) rfl rfl (by kernel_rfl) (Or.inl ⟨by rfl, ?yru3⟩) hH ?rru3
                case yru3 => intro w' hS'; obtain ⟨s0, s1, s2, s3, s4⟩ := hS'; obtain ⟨x0, x1, x2, x3⟩ := BH.out _ _ s0; obtain ⟨r1, f1⟩ := s1.rules; obtain ⟨z1, z2⟩ := CR.out _ s4; go_simp; try with_reducible rfl
                try simp only [zA]
                refine takeQ 3 (.pointer (some ⟨q9, 1, none⟩)) (some 128) rfl rfl (by kernel_rfl) (Or.inl ⟨by rfl, ?yru4⟩) hH ?rru4
                case yru4 => intro w' hS'; go_simp; try with_reducible rfl
                try simp only [zA]
                refine takeQ 4 (.int .i64 LHd.size) (some 129) rfl rfl (by kernel_rfl) (Or.inl ⟨by rfl, ?yru5⟩) hH ?rru5
                case yru5 => intro w' hS'; obtain ⟨s0, s1, s2, s3, s4⟩ := hS'; obtain ⟨x0, x1, x2, x3⟩ := BH.out _ _ s0; obtain ⟨r1, f1⟩ := s1.rules; obtain ⟨z1, z2⟩ := CR.out _ s4; go_simp; try with_reducible rfl
                try simp only [zA]
                refine takeQ 5 (.slice A0 nL c0) (some 130) rfl rfl (by kernel_rfl) (Or.inl ⟨by rfl, ?yru6⟩) hH ?rru6
                case yru6 => intro w' hS'; obtain ⟨s0, s1, s2, s3, s4⟩ := hS'; obtain ⟨x0, x1, x2, x3⟩ := BH.out _ _ s0; obtain ⟨r1, f1⟩ := s1.rules; obtain ⟨z1, z2⟩ := CR.out _ s4; go_simp; try with_reducible rfl
                try simp only [zA]
                refine takeQ 6 (.pointer (some ⟨g, 2, none⟩)) (some 131) rfl rfl (by kernel_rfl) (Or.inl ⟨by rfl, ?yru7⟩) hH ?rru7
                case yru7 => intro w' hS'; go_simp; try with_reducible rfl
                try simp only [zA]
                refine takeQ 7 (.slice (some ⟨br, orr, none⟩) n1 c1) (some 132) rfl rfl (by kernel_rfl) (Or.inl ⟨by rfl, ?yru8⟩) hH ?rru8
                case yru8 => intro w' hS'; obtain ⟨s0, s1, s2, s3, s4⟩ := hS'; obtain ⟨x0, x1, x2, x3⟩ := BH.out _ _ s0; obtain ⟨r1, f1⟩ := s1.rules; obtain ⟨z1, z2⟩ := CR.out _ s4; go_simp; try with_reducible rfl
                try simp only [zA]
                refine takeQ 8 (.int .i64 (k2 : Int)) (some 133) rfl rfl (by kernel_rfl) (Or.inl ⟨by rfl, ?yru9⟩) hH ?rru9
                case yru9 => intro w' hS'; obtain ⟨s0, s1, s2, s3, s4⟩ := hS'; obtain ⟨x0, x1, x2, x3⟩ := BH.out _ _ s0; obtain ⟨r1, f1⟩ := s1.rules; obtain ⟨z1, z2⟩ := CR.out _ s4; go_simp; try with_reducible rfl
                try simp only [zA]
                refine takeQ 9 (.pointer (some ⟨br, orr + k2 * 3, none⟩)) (some 134) rfl rfl (by kernel_rfl) (Or.inl ⟨by rfl, ?yru10⟩) hH ?rru10
                case yru10 => intro w' hS'; go_simp; try with_reducible rfl
                try simp only [zA]
                refine takeQ 10 (.pointer (some ⟨br, orr + k2 * 3 + 1, none⟩)) (some 135) rfl rfl (by kernel_rfl) (Or.inl ⟨by rfl, ?yru11⟩) hH ?rru11
                case yru11 => intro w' hS'; go_simp; try with_reducible rfl
                try simp only [zA]
                refine takeQ 11 (.string r.topic) (some 136) rfl rfl (by kernel_rfl) (Or.inl ⟨by rfl, ?yru12⟩) hH ?rru12
                case yru12 => intro w' hS'; obtain ⟨s0, s1, s2, s3, s4⟩ := hS'; obtain ⟨x0, x1, x2, x3⟩ := BH.out _ _ s0; obtain ⟨r1, f1⟩ := s1.rules; obtain ⟨z1, z2⟩ := CR.out _ s4; go_simp; try with_reducible rfl
                try simp only [zA]
                refine takeQ 12 (.pointer (some ⟨g, 2, none⟩)) (some 137) rfl rfl (by kernel_rfl) (Or.inl ⟨by rfl, ?yru13⟩) hH ?rru13
                case yru13 => intro w' hS'; go_simp; try with_reducible rfl
                try simp only [zA]
                refine takeQ 13 (.slice (some ⟨br, orr, none⟩) n1 c1) (some 138) rfl rfl (by kernel_rfl) (Or.inl ⟨by rfl, ?yru14⟩) hH ?rru14
                case yru14 => intro w' hS'; obtain ⟨s0, s1, s2, s3, s4⟩ := hS'; obtain ⟨x0, x1, x2, x3⟩ := BH.out _ _ s0; obtain ⟨r1, f1⟩ := s1.rules; obtain ⟨z1, z2⟩ := CR.out _ s4; go_simp; try with_reducible rfl
                try simp only [zA]
                refine takeQ 14 (.int .i64 (k2 : Int)) (some 139) rfl rfl (by kernel_rfl) (Or.inl ⟨by rfl, ?yru15⟩) hH ?rru15
                case yru15 => intro w' hS'; obtain ⟨s0, s1, s2, s3, s4⟩ := hS'; obtain ⟨x0, x1, x2, x3⟩ := BH.out _ _ s0; obtain ⟨r1, f1⟩ := s1.rules; obtain ⟨z1, z2⟩ := CR.out _ s4; go_simp; try with_reducible rfl
                try simp only [zA]
                refine takeQ 15 (.pointer (some ⟨br, orr + k2 * 3, none⟩)) (some 140) rfl rfl (by kernel_rfl) (Or.inl ⟨by rfl, ?yru16⟩) hH ?rru16
                case yru16 => intro w' hS'; go_simp; try with_reducible rfl
                try simp only [zA]
                refine takeQ 16 (.pointer (some ⟨br, orr + k2 * 3 + 2, none⟩)) (some 141) rfl rfl (by kernel_rfl) (Or.inl ⟨by rfl, ?yru17⟩) hH ?rru17
                case yru17 => intro w' hS'; go_simp; try with_reducible rfl
                try simp only [zA]
                refine takeQ 17 (.int .i64 r.index) (some 142) rfl rfl (by kernel_rfl) (Or.inl ⟨by rfl, ?yru18⟩) hH ?rru18
                case yru18 => intro w' hS'; obtain ⟨s0, s1, s2, s3, s4⟩ := hS'; obtain ⟨x0, x1, x2, x3⟩ := BH.out _ _ s0; obtain ⟨r1, f1⟩ := s1.rules; obtain ⟨z1, z2⟩ := CR.out _ s4; go_simp; try with_reducible rfl
                try simp only [zA]
                refine oneH 18 (oi := _) (some 143) (by kernel_rfl) rfl rfl rfl (fun K' hK => ?_)
                refine ⟨?_⟩
                rw [if_pos (by rfl)]
                go_simp
                refine (LF.out _ hH.2.2.2.2 r.topic r.index).mono ?_
                rintro e wz ⟨rfl, rfl⟩
                obtain ⟨zz, hzz⟩ : ∃ zz, zz = idxB (ofTI r.topic r.index) (b.log.entries.take nL) := ⟨_, rfl⟩
                rw [← hzz] at RA
                rw [← hzz]
                clear hzz
                refine hK.out _ _ ⟨_, rfl⟩ (hH) (fun hH2 => ?_)
                clear hK K' hH
                have hH := hH2
                clear hH2
                try simp only [zB]
                by_cases p7 : zz < 0
                · have p7' : decide (zz < 0) = true := decide_eq_true p7
                  refine takeQ 19 (.bool true) (some 144) rfl rfl (by kernel_rfl) (Or.inl ⟨by rfl, ?yrua1⟩) hH ?rrua1
                  case yrua1 => intro w' hS'; go_simp; try with_reducible rfl
                  try simp only [zA]
                  have E := hU (show fin = false by rw [FN.out]; exact no_parts (by rw [F6.out, allTo_bad (k := k2) (by rw [RA.out]; simp; omega) _ hlt2]))
                  have HE := hU hH.2.2.2.2
                  clear hH p7' SL
                  refine wpAnyH_done (by kernel_rfl) ?_ _
                  go_wp2_with fail
                  go_ret
                  exact ⟨ret_bool E.out.symm, HE.out⟩
                have p7' : decide (zz < 0) = false := decide_eq_false p7
                refine takeQ 19 (.bool false) (some 144) rfl rfl (by kernel_rfl) (Or.inl ⟨by rfl, ?yru19⟩) hH ?rru19
                case yru19 => intro w' hS'; go_simp; try with_reducible rfl
                try simp only [zA]
                have NX := hU (show allTo (readAt b) (k2 + 1) = true from allTo_good Hi2.out (by rw [RA.out]; simp; omega))
                have HH := hU hH
                clear hH p7' p7 SL
                refine wpAnyH_done (by kernel_rfl) ?_ _
                go_wp2_with fail
                go_roundw
                case rel => exact ⟨k2 + 1, by omega, by go_num, NX.out, HH.out.1, HH.out.2.1, HH.out.2.2.1, HH.out.2.2.2.1, HH.out.2.2.2.2⟩
                case measure => simp [intOf]; omega
              obtain ⟨d, hd⟩ : ∃ d, b.heads[k]? = some d := ⟨b.heads[k]'(by rw [← N2.out]; exact hlt), List.getElem?_eq_getElem _⟩
              obtain ⟨y0, y1, y2, y3, y4⟩ := heads_cells (S2.out.ext he) hd
              have Hd := hU hd
              have DOK := hU (headAt_ok hd ((headsOk_all P4.out).2.2 k (by rw [← N2.out]; exact hlt)))
              have hbw := Nat.lt_of_lt_of_le hbh he.size
              clear hd
              go_upto_region 10 with fail
              have kq := Blk.new wr 55 #[.int .i64 d.number, .int .i64 d.size, .string d.root, .int .i64 d.taken, .string d.takenRoot]
              have hx := Ext.new (Below.refl wr.heap.size wr) (.cells #[.int .i64 d.number, .int .i64 d.size, .string d.root, .int .i64 d.taken, .string d.takenRoot] 55)
              replace KB := hU (KB.out.ext hx); replace RL := hU (RowT.ext RL.out hx); replace RT := hU (RowT.ext RT.out hx); replace HE := hU (HE.out.next hx)
              obtain ⟨q8, hq8⟩ : ∃ q8, q8 = wr.heap.size := ⟨_, rfl⟩
              rw [← hq8] at kq
              rw [← hq8]
              clear hq8 hx y0 y1 y2 y3 y4 x0 x1 x2 x3 he hbw
              generalize wr.alloc (.cells #[.int .i64 d.number, .int .i64 d.size, .string d.root, .int .i64 d.taken, .string d.takenRoot] 55) = w8 at *
              have SA := hU (show sealAt b.width LH TH b.heads k = (decide (d.size ≤ LH.length) && decide (d.taken ≤ TH.length) && (d.root.toList == (treeR b.width (LH.take d.size.toNat)).toList) && (d.takenRoot.toList == (treeR b.width (TH.take d.taken.toNat)).toList)) by rw [sealAt, Hd.out])
              have BADK := hU (fun (h : sealAt b.width LH TH b.heads k = false) => (show fin = false by rw [FN.out]; exact no_parts (by rw [F5.out, allTo_bad (k := k) h _ hlt]; rfl)))
              refine wp_region_held_drew (S := fun w' => Blk w' g 59 cs.toArray ∧ Blk w' q8 55 #[.int .i64 d.number, .int .i64 d.size, .string d.root, .int .i64 d.taken, .string d.takenRoot] ∧ RowT w.heap.size w' (.slice Al LH.length cl) LH ∧ RowT w.heap.size w' (.slice At TH.length ct) TH ∧ Ext w w') (by kernel_rfl) ⟨KB.out.drew, kq.drew, RL.out, RT.out, HE.out.drew⟩ (fun hH => ?_)
              clear KB kq RL RT HE
              refine takeQ 0 (.pointer (some ⟨q8, 1, none⟩)) (some 80) rfl rfl (by kernel_rfl) (Or.inl ⟨by rfl, ?yrt1⟩) hH ?rrt1
              case yrt1 => intro w' hS'; go_simp; try with_reducible rfl
              try simp only [zA]
              refine takeQ 1 (.int .i64 d.size) (some 81) rfl rfl (by kernel_rfl) (Or.inl ⟨by rfl, ?yrt2⟩) hH ?rrt2
              case yrt2 => intro w' hS'; obtain ⟨s0, s1, s2⟩ := hS'; obtain ⟨x0, x1, x2, x3⟩ := BH.out _ _ s0; obtain ⟨r1, f1⟩ := s1.rules; go_simp; try with_reducible rfl
              try simp only [zA]
              refine takeQ 2 (.slice Al LH.length cl) (some 82) rfl rfl (by kernel_rfl) (Or.inl ⟨by rfl, ?yrt3⟩) hH ?rrt3
              case yrt3 => intro w' hS'; obtain ⟨s0, s1, s2⟩ := hS'; obtain ⟨x0, x1, x2, x3⟩ := BH.out _ _ s0; obtain ⟨r1, f1⟩ := s1.rules; go_simp; try with_reducible rfl
              try simp only [zA]
              refine takeQ 3 (.int .i64 (LH.length : Int)) (some 83) rfl rfl (by kernel_rfl) (Or.inl ⟨by rfl, ?yrt4⟩) hH ?rrt4
              case yrt4 => intro w' hS'; obtain ⟨s0, s1, s2⟩ := hS'; obtain ⟨x0, x1, x2, x3⟩ := BH.out _ _ s0; obtain ⟨r1, f1⟩ := s1.rules; go_simp; try with_reducible rfl
              try simp only [zA]
              by_cases p1 : (LH.length : Int) < d.size
              · have p1' : decide ((LH.length : Int) < d.size) = true := decide_eq_true p1
                refine takeQ 4 (.bool true) (some 84) rfl rfl (by kernel_rfl) (Or.inl ⟨by rfl, ?yrta1⟩) hH ?rrta1
                case yrta1 => intro w' hS'; go_simp; try with_reducible rfl
                try simp only [zA]
                refine takeQ 5 (.bool true) (some 85) rfl rfl (by kernel_rfl) (Or.inl ⟨by rfl, ?yrta2⟩) hH ?rrta2
                case yrta2 => intro w' hS'; go_simp; try with_reducible rfl
                try simp only [zA]
                refine takeQ 6 (undef) (some 86) rfl rfl (by kernel_rfl) (Or.inr ⟨by go_simp; try (intro h; cases h), rfl⟩) hH ?rrta3
                try simp only [zB]
                refine takeQ 7 (undef) (some 87) rfl rfl (by kernel_rfl) (Or.inr ⟨by go_simp; try (intro h; cases h), rfl⟩) hH ?rrta4
                try simp only [zB]
                refine takeQ 8 (undef) (some 88) rfl rfl (by kernel_rfl) (Or.inr ⟨by go_simp; try (intro h; cases h), rfl⟩) hH ?rrta5
                try simp only [zB]
                refine takeQ 9 (undef) (some 89) rfl rfl (by kernel_rfl) (Or.inr ⟨by go_simp; try (intro h; cases h), rfl⟩) hH ?rrta6
                try simp only [zB]
                refine takeQ 10 (undef) (some 90) rfl rfl (by kernel_rfl) (Or.inr ⟨by go_simp; try (intro h; cases h), rfl⟩) hH ?rrta7
                try simp only [zB]
                refine takeQ 11 (.bool true) (some 91) rfl rfl (by kernel_rfl) (Or.inl ⟨by rfl, ?yrta8⟩) hH ?rrta8
                case yrta8 => intro w' hS'; go_simp; try with_reducible rfl
                try simp only [zA]
                refine takeQ 12 (.bool true) (some 92) rfl rfl (by kernel_rfl) (Or.inl ⟨by rfl, ?yrta9⟩) hH ?rrta9
                case yrta9 => intro w' hS'; go_simp; try with_reducible rfl
                try simp only [zA]
                refine takeQ 13 (undef) (some 93) rfl rfl (by kernel_rfl) (Or.inr ⟨by go_simp; try (intro h; cases h), rfl⟩) hH ?rrta10
                try simp only [zB]
                refine takeQ 14 (undef) (some 94) rfl rfl (by kernel_rfl) (Or.inr ⟨by go_simp; try (intro h; cases h), rfl⟩) hH ?rrta11
                try simp only [zB]
                refine takeQ 15 (undef) (some 95) rfl rfl (by kernel_rfl) (Or.inr ⟨by go_simp; try (intro h; cases h), rfl⟩) hH ?rrta12
                try simp only [zB]
                refine takeQ 16 (undef) (some 96) rfl rfl (by kernel_rfl) (Or.inr ⟨by go_simp; try (intro h; cases h), rfl⟩) hH ?rrta13
                try simp only [zB]
                refine takeQ 17 (undef) (some 97) rfl rfl (by kernel_rfl) (Or.inr ⟨by go_simp; try (intro h; cases h), rfl⟩) hH ?rrta14
                try simp only [zB]
                refine takeQ 18 (undef) (some 98) rfl rfl (by kernel_rfl) (Or.inr ⟨by go_simp; try (intro h; cases h), rfl⟩) hH ?rrta15
                try simp only [zB]
                refine takeQ 19 (undef) (some 99) rfl rfl (by kernel_rfl) (Or.inr ⟨by go_simp; try (intro h; cases h), rfl⟩) hH ?rrta16
                try simp only [zB]
                refine takeQ 20 (undef) (some 100) rfl rfl (by kernel_rfl) (Or.inr ⟨by go_simp; try (intro h; cases h), rfl⟩) hH ?rrta17
                try simp only [zB]
                refine takeQ 21 (undef) (some 101) rfl rfl (by kernel_rfl) (Or.inr ⟨by go_simp; try (intro h; cases h), rfl⟩) hH ?rrta18
                try simp only [zB]
                refine takeQ 22 (undef) (some 102) rfl rfl (by kernel_rfl) (Or.inr ⟨by go_simp; try (intro h; cases h), rfl⟩) hH ?rrta19
                try simp only [zB]
                refine takeQ 23 (.bool true) (some 103) rfl rfl (by kernel_rfl) (Or.inl ⟨by rfl, ?yrta20⟩) hH ?rrta20
                case yrta20 => intro w' hS'; go_simp; try with_reducible rfl
                try simp only [zA]
                refine takeQ 24 (.bool true) (some 104) rfl rfl (by kernel_rfl) (Or.inl ⟨by rfl, ?yrta21⟩) hH ?rrta21
                case yrta21 => intro w' hS'; go_simp; try with_reducible rfl
                try simp only [zA]
                refine takeQ 25 (undef) (some 105) rfl rfl (by kernel_rfl) (Or.inr ⟨by go_simp; try (intro h; cases h), rfl⟩) hH ?rrta22
                try simp only [zB]
                refine takeQ 26 (undef) (some 106) rfl rfl (by kernel_rfl) (Or.inr ⟨by go_simp; try (intro h; cases h), rfl⟩) hH ?rrta23
                try simp only [zB]
                refine takeQ 27 (undef) (some 107) rfl rfl (by kernel_rfl) (Or.inr ⟨by go_simp; try (intro h; cases h), rfl⟩) hH ?rrta24
                try simp only [zB]
                refine takeQ 28 (undef) (some 108) rfl rfl (by kernel_rfl) (Or.inr ⟨by go_simp; try (intro h; cases h), rfl⟩) hH ?rrta25
                try simp only [zB]
                refine takeQ 29 (undef) (some 109) rfl rfl (by kernel_rfl) (Or.inr ⟨by go_simp; try (intro h; cases h), rfl⟩) hH ?rrta26
                try simp only [zB]
                refine takeQ 30 (undef) (some 110) rfl rfl (by kernel_rfl) (Or.inr ⟨by go_simp; try (intro h; cases h), rfl⟩) hH ?rrta27
                try simp only [zB]
                refine takeQ 31 (undef) (some 111) rfl rfl (by kernel_rfl) (Or.inr ⟨by go_simp; try (intro h; cases h), rfl⟩) hH ?rrta28
                try simp only [zB]
                refine takeQ 32 (undef) (some 112) rfl rfl (by kernel_rfl) (Or.inr ⟨by go_simp; try (intro h; cases h), rfl⟩) hH ?rrta29
                try simp only [zB]
                refine takeQ 33 (undef) (some 113) rfl rfl (by kernel_rfl) (Or.inr ⟨by go_simp; try (intro h; cases h), rfl⟩) hH ?rrta30
                try simp only [zB]
                refine takeQ 34 (undef) (some 114) rfl rfl (by kernel_rfl) (Or.inr ⟨by go_simp; try (intro h; cases h), rfl⟩) hH ?rrta31
                try simp only [zB]
                refine takeQ 35 (.bool true) (some 115) rfl rfl (by kernel_rfl) (Or.inl ⟨by rfl, ?yrta32⟩) hH ?rrta32
                case yrta32 => intro w' hS'; go_simp; try with_reducible rfl
                try simp only [zA]
                have E := hU (BADK.out (by rw [SA.out]; simp; omega))
                have HE := hU hH.2.2.2.2
                clear hH
                refine wpAnyH_done (by kernel_rfl) ?_ _
                go_wp2_with fail
                go_ret
                exact ⟨ret_bool E.out.symm, HE.out⟩
              have p1' : decide ((LH.length : Int) < d.size) = false := decide_eq_false p1
              refine takeQ 4 (.bool false) (some 84) rfl rfl (by kernel_rfl) (Or.inl ⟨by rfl, ?yrt5⟩) hH ?rrt5
              case yrt5 => intro w' hS'; go_simp; try with_reducible rfl
              try simp only [zA]
              refine takeQ 5 (.bool false) (some 85) rfl rfl (by kernel_rfl) (Or.inl ⟨by rfl, ?yrt6⟩) hH ?rrt6
              case yrt6 => intro w' hS'; go_simp; try with_reducible rfl
              try simp only [zA]
              refine takeQ 6 (.pointer (some ⟨q8, 3, none⟩)) (some 86) rfl rfl (by kernel_rfl) (Or.inl ⟨by rfl, ?yrt7⟩) hH ?rrt7
              case yrt7 => intro w' hS'; go_simp; try with_reducible rfl
              try simp only [zA]
              refine takeQ 7 (.int .i64 d.taken) (some 87) rfl rfl (by kernel_rfl) (Or.inl ⟨by rfl, ?yrt8⟩) hH ?rrt8
              case yrt8 => intro w' hS'; obtain ⟨s0, s1, s2⟩ := hS'; obtain ⟨x0, x1, x2, x3⟩ := BH.out _ _ s0; obtain ⟨r1, f1⟩ := s1.rules; go_simp; try with_reducible rfl
              try simp only [zA]
              refine takeQ 8 (.slice At TH.length ct) (some 88) rfl rfl (by kernel_rfl) (Or.inl ⟨by rfl, ?yrt9⟩) hH ?rrt9
              case yrt9 => intro w' hS'; obtain ⟨s0, s1, s2⟩ := hS'; obtain ⟨x0, x1, x2, x3⟩ := BH.out _ _ s0; obtain ⟨r1, f1⟩ := s1.rules; go_simp; try with_reducible rfl
              try simp only [zA]
              refine takeQ 9 (.int .i64 (TH.length : Int)) (some 89) rfl rfl (by kernel_rfl) (Or.inl ⟨by rfl, ?yrt10⟩) hH ?rrt10
              case yrt10 => intro w' hS'; obtain ⟨s0, s1, s2⟩ := hS'; obtain ⟨x0, x1, x2, x3⟩ := BH.out _ _ s0; obtain ⟨r1, f1⟩ := s1.rules; go_simp; try with_reducible rfl
              try simp only [zA]
              by_cases p2 : (TH.length : Int) < d.taken
              · have p2' : decide ((TH.length : Int) < d.taken) = true := decide_eq_true p2
                refine takeQ 10 (.bool true) (some 90) rfl rfl (by kernel_rfl) (Or.inl ⟨by rfl, ?yrtb1⟩) hH ?rrtb1
                case yrtb1 => intro w' hS'; go_simp; try with_reducible rfl
                try simp only [zA]
                refine takeQ 11 (.bool true) (some 91) rfl rfl (by kernel_rfl) (Or.inl ⟨by rfl, ?yrtb2⟩) hH ?rrtb2
                case yrtb2 => intro w' hS'; go_simp; try with_reducible rfl
                try simp only [zA]
                refine takeQ 12 (.bool true) (some 92) rfl rfl (by kernel_rfl) (Or.inl ⟨by rfl, ?yrtb3⟩) hH ?rrtb3
                case yrtb3 => intro w' hS'; go_simp; try with_reducible rfl
                try simp only [zA]
                refine takeQ 13 (undef) (some 93) rfl rfl (by kernel_rfl) (Or.inr ⟨by go_simp; try (intro h; cases h), rfl⟩) hH ?rrtb4
                try simp only [zB]
                refine takeQ 14 (undef) (some 94) rfl rfl (by kernel_rfl) (Or.inr ⟨by go_simp; try (intro h; cases h), rfl⟩) hH ?rrtb5
                try simp only [zB]
                refine takeQ 15 (undef) (some 95) rfl rfl (by kernel_rfl) (Or.inr ⟨by go_simp; try (intro h; cases h), rfl⟩) hH ?rrtb6
                try simp only [zB]
                refine takeQ 16 (undef) (some 96) rfl rfl (by kernel_rfl) (Or.inr ⟨by go_simp; try (intro h; cases h), rfl⟩) hH ?rrtb7
                try simp only [zB]
                refine takeQ 17 (undef) (some 97) rfl rfl (by kernel_rfl) (Or.inr ⟨by go_simp; try (intro h; cases h), rfl⟩) hH ?rrtb8
                try simp only [zB]
                refine takeQ 18 (undef) (some 98) rfl rfl (by kernel_rfl) (Or.inr ⟨by go_simp; try (intro h; cases h), rfl⟩) hH ?rrtb9
                try simp only [zB]
                refine takeQ 19 (undef) (some 99) rfl rfl (by kernel_rfl) (Or.inr ⟨by go_simp; try (intro h; cases h), rfl⟩) hH ?rrtb10
                try simp only [zB]
                refine takeQ 20 (undef) (some 100) rfl rfl (by kernel_rfl) (Or.inr ⟨by go_simp; try (intro h; cases h), rfl⟩) hH ?rrtb11
                try simp only [zB]
                refine takeQ 21 (undef) (some 101) rfl rfl (by kernel_rfl) (Or.inr ⟨by go_simp; try (intro h; cases h), rfl⟩) hH ?rrtb12
                try simp only [zB]
                refine takeQ 22 (undef) (some 102) rfl rfl (by kernel_rfl) (Or.inr ⟨by go_simp; try (intro h; cases h), rfl⟩) hH ?rrtb13
                try simp only [zB]
                refine takeQ 23 (.bool true) (some 103) rfl rfl (by kernel_rfl) (Or.inl ⟨by rfl, ?yrtb14⟩) hH ?rrtb14
                case yrtb14 => intro w' hS'; go_simp; try with_reducible rfl
                try simp only [zA]
                refine takeQ 24 (.bool true) (some 104) rfl rfl (by kernel_rfl) (Or.inl ⟨by rfl, ?yrtb15⟩) hH ?rrtb15
                case yrtb15 => intro w' hS'; go_simp; try with_reducible rfl
                try simp only [zA]
                refine takeQ 25 (undef) (some 105) rfl rfl (by kernel_rfl) (Or.inr ⟨by go_simp; try (intro h; cases h), rfl⟩) hH ?rrtb16
                try simp only [zB]
                refine takeQ 26 (undef) (some 106) rfl rfl (by kernel_rfl) (Or.inr ⟨by go_simp; try (intro h; cases h), rfl⟩) hH ?rrtb17
                try simp only [zB]
                refine takeQ 27 (undef) (some 107) rfl rfl (by kernel_rfl) (Or.inr ⟨by go_simp; try (intro h; cases h), rfl⟩) hH ?rrtb18
                try simp only [zB]
                refine takeQ 28 (undef) (some 108) rfl rfl (by kernel_rfl) (Or.inr ⟨by go_simp; try (intro h; cases h), rfl⟩) hH ?rrtb19
                try simp only [zB]
                refine takeQ 29 (undef) (some 109) rfl rfl (by kernel_rfl) (Or.inr ⟨by go_simp; try (intro h; cases h), rfl⟩) hH ?rrtb20
                try simp only [zB]
                refine takeQ 30 (undef) (some 110) rfl rfl (by kernel_rfl) (Or.inr ⟨by go_simp; try (intro h; cases h), rfl⟩) hH ?rrtb21
                try simp only [zB]
                refine takeQ 31 (undef) (some 111) rfl rfl (by kernel_rfl) (Or.inr ⟨by go_simp; try (intro h; cases h), rfl⟩) hH ?rrtb22
                try simp only [zB]
                refine takeQ 32 (undef) (some 112) rfl rfl (by kernel_rfl) (Or.inr ⟨by go_simp; try (intro h; cases h), rfl⟩) hH ?rrtb23
                try simp only [zB]
                refine takeQ 33 (undef) (some 113) rfl rfl (by kernel_rfl) (Or.inr ⟨by go_simp; try (intro h; cases h), rfl⟩) hH ?rrtb24
                try simp only [zB]
                refine takeQ 34 (undef) (some 114) rfl rfl (by kernel_rfl) (Or.inr ⟨by go_simp; try (intro h; cases h), rfl⟩) hH ?rrtb25
                try simp only [zB]
                refine takeQ 35 (.bool true) (some 115) rfl rfl (by kernel_rfl) (Or.inl ⟨by rfl, ?yrtb26⟩) hH ?rrtb26
                case yrtb26 => intro w' hS'; go_simp; try with_reducible rfl
                try simp only [zA]
                have E := hU (BADK.out (by rw [SA.out]; simp; omega))
                have HE := hU hH.2.2.2.2
                clear hH
                refine wpAnyH_done (by kernel_rfl) ?_ _
                go_wp2_with fail
                go_ret
                exact ⟨ret_bool E.out.symm, HE.out⟩
              have p2' : decide ((TH.length : Int) < d.taken) = false := decide_eq_false p2
              have din := headOk_in DOK.out.1
              obtain ⟨m1, hm1⟩ : ∃ m1, m1 = d.size.toNat := ⟨_, rfl⟩
              obtain ⟨m2, hm2⟩ : ∃ m2, m2 = d.taken.toNat := ⟨_, rfl⟩
              have lcs := LCS.out
              have SL1 := fun W => run_pre (P := Tryz.prog) (t := 22) Al LH.length cl m1 1 Tryz.underlying22 (fun W => by kernel_rfl) (by omega) (x := d.size) (by omega) W
              have SL2 := fun W => run_pre (P := Tryz.prog) (t := 22) At TH.length ct m2 1 Tryz.underlying22 (fun W => by kernel_rfl) (by omega) (x := d.taken) (by omega) W
              have tk1 : (LH.take m1).length = m1 := by rw [List.length_take]; omega
              have tk2 : (TH.take m2).length = m2 := by rw [List.length_take]; omega
              have T1 : Hid (∀ W : World, RowT w.heap.size W (.slice Al LH.length cl) LH → Calls Tryz.prog 100 #[.int .i64 b.width, .slice Al m1 cl] W fun e w' => e = .returned (.string (treeR b.width (LH.take m1))) ∧ Ext W w') := hU (fun W h => by
               have := l05Root_any b.width HWD.out m1 (LH.take m1) Al cl W (by omega) (by omega) ⟨by omega, by omega, reads_take (f := sone) (size := 1) (fun _ => rfl) (show ReadsL W W.heap.size sone 1 Al LH from Reads.of_own (c := cl) h) m1 (by omega), fun _ _ _ => trivial⟩ (fun x hx => LW.out x (List.mem_of_mem_take hx))
               rwa [tk1] at this)
              have T2 : Hid (∀ W : World, RowT w.heap.size W (.slice At TH.length ct) TH → Calls Tryz.prog 100 #[.int .i64 b.width, .slice At m2 ct] W fun e w' => e = .returned (.string (treeR b.width (TH.take m2))) ∧ Ext W w') := hU (fun W h => by
               have := l05Root_any b.width HWD.out m2 (TH.take m2) At ct W (by omega) (by omega) ⟨by omega, by omega, reads_take (f := sone) (size := 1) (fun _ => rfl) (show ReadsL W W.heap.size sone 1 At TH from Reads.of_own (c := ct) h) m2 (by omega), fun _ _ _ => trivial⟩ (fun x hx => TW.out x (List.mem_of_mem_take hx))
               rwa [tk2] at this)
              have SA := hU (show sealAt b.width LH TH b.heads k = ((d.root.toList == (treeR b.width (LH.take m1)).toList) && (d.takenRoot.toList == (treeR b.width (TH.take m2)).toList)) by rw [SA.out, hm1, hm2, decide_eq_true (by omega), decide_eq_true (by omega)]; rfl)
              obtain ⟨X1, hX1⟩ : ∃ X1, X1 = treeR b.width (LH.take m1) := ⟨_, rfl⟩
              obtain ⟨X2, hX2⟩ : ∃ X2, X2 = treeR b.width (TH.take m2) := ⟨_, rfl⟩
              rw [← hX1] at T1 SA
              rw [← hX2] at T2 SA
              clear din hm1 hm2 lcs tk1 tk2 hX1 hX2
              refine takeQ 10 (.bool false) (some 90) rfl rfl (by kernel_rfl) (Or.inl ⟨by rfl, ?yrt11⟩) hH ?rrt11
              case yrt11 => intro w' hS'; go_simp; try with_reducible rfl
              try simp only [zA]
              refine takeQ 11 (.bool false) (some 91) rfl rfl (by kernel_rfl) (Or.inl ⟨by rfl, ?yrt12⟩) hH ?rrt12
              case yrt12 => intro w' hS'; go_simp; try with_reducible rfl
              try simp only [zA]
              refine takeQ 12 (.bool false) (some 92) rfl rfl (by kernel_rfl) (Or.inl ⟨by rfl, ?yrt13⟩) hH ?rrt13
              case yrt13 => intro w' hS'; go_simp; try with_reducible rfl
              try simp only [zA]
              refine takeQ 13 (.pointer (some ⟨q8, 2, none⟩)) (some 93) rfl rfl (by kernel_rfl) (Or.inl ⟨by rfl, ?yrt14⟩) hH ?rrt14
              case yrt14 => intro w' hS'; go_simp; try with_reducible rfl
              try simp only [zA]
              refine takeQ 14 (.string d.root) (some 94) rfl rfl (by kernel_rfl) (Or.inl ⟨by rfl, ?yrt15⟩) hH ?rrt15
              case yrt15 => intro w' hS'; obtain ⟨s0, s1, s2⟩ := hS'; obtain ⟨x0, x1, x2, x3⟩ := BH.out _ _ s0; obtain ⟨r1, f1⟩ := s1.rules; go_simp; try with_reducible rfl
              try simp only [zA]
              refine takeQ 15 (.pointer (some ⟨g, 0, none⟩)) (some 95) rfl rfl (by kernel_rfl) (Or.inl ⟨by rfl, ?yrt16⟩) hH ?rrt16
              case yrt16 => intro w' hS'; go_simp; try with_reducible rfl
              try simp only [zA]
              refine takeQ 16 (.int .i64 b.width) (some 96) rfl rfl (by kernel_rfl) (Or.inl ⟨by rfl, ?yrt17⟩) hH ?rrt17
              case yrt17 => intro w' hS'; obtain ⟨s0, s1, s2⟩ := hS'; obtain ⟨x0, x1, x2, x3⟩ := BH.out _ _ s0; obtain ⟨r1, f1⟩ := s1.rules; go_simp; try with_reducible rfl
              try simp only [zA]
              refine takeQ 17 (.slice Al LH.length cl) (some 97) rfl rfl (by kernel_rfl) (Or.inl ⟨by rfl, ?yrt18⟩) hH ?rrt18
              case yrt18 => intro w' hS'; obtain ⟨s0, s1, s2⟩ := hS'; obtain ⟨x0, x1, x2, x3⟩ := BH.out _ _ s0; obtain ⟨r1, f1⟩ := s1.rules; go_simp; try with_reducible rfl
              try simp only [zA]
              refine takeQ 18 (.pointer (some ⟨q8, 1, none⟩)) (some 98) rfl rfl (by kernel_rfl) (Or.inl ⟨by rfl, ?yrt19⟩) hH ?rrt19
              case yrt19 => intro w' hS'; go_simp; try with_reducible rfl
              try simp only [zA]
              refine takeQ 19 (.int .i64 d.size) (some 99) rfl rfl (by kernel_rfl) (Or.inl ⟨by rfl, ?yrt20⟩) hH ?rrt20
              case yrt20 => intro w' hS'; obtain ⟨s0, s1, s2⟩ := hS'; obtain ⟨x0, x1, x2, x3⟩ := BH.out _ _ s0; obtain ⟨r1, f1⟩ := s1.rules; go_simp; try with_reducible rfl
              try simp only [zA]
              refine takeQ 20 (.slice Al m1 cl) (some 100) rfl rfl (by kernel_rfl) (Or.inl ⟨by rfl, ?yrt21⟩) hH ?rrt21
              case yrt21 => intro w' hS'; obtain ⟨s0, s1, s2⟩ := hS'; obtain ⟨x0, x1, x2, x3⟩ := BH.out _ _ s0; obtain ⟨r1, f1⟩ := s1.rules; go_simp; try with_reducible rfl
              try simp only [zA]
              refine oneHw 21 (oi := _) (some 101) (by kernel_rfl) rfl (by rfl) rfl (fun K' hK => ?_)
              refine ⟨?_⟩
              rw [if_pos (by rfl)]
              go_simp
              refine (T1.out _ hH.2.2.1).mono ?_
              rintro e wf ⟨rfl, h1⟩
              refine hK.out _ _ ⟨_, rfl⟩ (⟨hH.1.ext h1, hH.2.1.ext h1, RowT.ext hH.2.2.1 h1, RowT.ext hH.2.2.2.1 h1, hH.2.2.2.2.next h1⟩) (fun hH2 => ?_)
              clear hK K' hH h1
              have hH := hH2
              clear hH2
              try simp only [zB]
              cases p5 : (d.root.toList == X1.toList)
              · have q5 := nes_of_beq p5
                refine takeQ 22 (.bool true) (some 102) rfl rfl (by kernel_rfl) (Or.inl ⟨by rfl, ?yrtc1⟩) hH ?rrtc1
                case yrtc1 => intro w' hS'; go_simp; try with_reducible rfl
                try simp only [zA]
                refine takeQ 23 (.bool true) (some 103) rfl rfl (by kernel_rfl) (Or.inl ⟨by rfl, ?yrtc2⟩) hH ?rrtc2
                case yrtc2 => intro w' hS'; go_simp; try with_reducible rfl
                try simp only [zA]
                refine takeQ 24 (.bool true) (some 104) rfl rfl (by kernel_rfl) (Or.inl ⟨by rfl, ?yrtc3⟩) hH ?rrtc3
                case yrtc3 => intro w' hS'; go_simp; try with_reducible rfl
                try simp only [zA]
                refine takeQ 25 (undef) (some 105) rfl rfl (by kernel_rfl) (Or.inr ⟨by go_simp; try (intro h; cases h), rfl⟩) hH ?rrtc4
                try simp only [zB]
                refine takeQ 26 (undef) (some 106) rfl rfl (by kernel_rfl) (Or.inr ⟨by go_simp; try (intro h; cases h), rfl⟩) hH ?rrtc5
                try simp only [zB]
                refine takeQ 27 (undef) (some 107) rfl rfl (by kernel_rfl) (Or.inr ⟨by go_simp; try (intro h; cases h), rfl⟩) hH ?rrtc6
                try simp only [zB]
                refine takeQ 28 (undef) (some 108) rfl rfl (by kernel_rfl) (Or.inr ⟨by go_simp; try (intro h; cases h), rfl⟩) hH ?rrtc7
                try simp only [zB]
                refine takeQ 29 (undef) (some 109) rfl rfl (by kernel_rfl) (Or.inr ⟨by go_simp; try (intro h; cases h), rfl⟩) hH ?rrtc8
                try simp only [zB]
                refine takeQ 30 (undef) (some 110) rfl rfl (by kernel_rfl) (Or.inr ⟨by go_simp; try (intro h; cases h), rfl⟩) hH ?rrtc9
                try simp only [zB]
                refine takeQ 31 (undef) (some 111) rfl rfl (by kernel_rfl) (Or.inr ⟨by go_simp; try (intro h; cases h), rfl⟩) hH ?rrtc10
                try simp only [zB]
                refine takeQ 32 (undef) (some 112) rfl rfl (by kernel_rfl) (Or.inr ⟨by go_simp; try (intro h; cases h), rfl⟩) hH ?rrtc11
                try simp only [zB]
                refine takeQ 33 (undef) (some 113) rfl rfl (by kernel_rfl) (Or.inr ⟨by go_simp; try (intro h; cases h), rfl⟩) hH ?rrtc12
                try simp only [zB]
                refine takeQ 34 (undef) (some 114) rfl rfl (by kernel_rfl) (Or.inr ⟨by go_simp; try (intro h; cases h), rfl⟩) hH ?rrtc13
                try simp only [zB]
                refine takeQ 35 (.bool true) (some 115) rfl rfl (by kernel_rfl) (Or.inl ⟨by rfl, ?yrtc14⟩) hH ?rrtc14
                case yrtc14 => intro w' hS'; go_simp; try with_reducible rfl
                try simp only [zA]
                have E := hU (BADK.out (by rw [SA.out]; rw [p5]; rfl))
                have HE := hU hH.2.2.2.2
                clear hH
                refine wpAnyH_done (by kernel_rfl) ?_ _
                go_wp2_with fail
                go_ret
                exact ⟨ret_bool E.out.symm, HE.out⟩
              have q5 := nes_of_beq p5
              refine takeQ 22 (.bool false) (some 102) rfl rfl (by kernel_rfl) (Or.inl ⟨by rfl, ?yrt22⟩) hH ?rrt22
              case yrt22 => intro w' hS'; go_simp; try with_reducible rfl
              try simp only [zA]
              refine takeQ 23 (.bool false) (some 103) rfl rfl (by kernel_rfl) (Or.inl ⟨by rfl, ?yrt23⟩) hH ?rrt23
              case yrt23 => intro w' hS'; go_simp; try with_reducible rfl
              try simp only [zA]
              refine takeQ 24 (.bool false) (some 104) rfl rfl (by kernel_rfl) (Or.inl ⟨by rfl, ?yrt24⟩) hH ?rrt24
              case yrt24 => intro w' hS'; go_simp; try with_reducible rfl
              try simp only [zA]
              refine takeQ 25 (.pointer (some ⟨q8, 4, none⟩)) (some 105) rfl rfl (by kernel_rfl) (Or.inl ⟨by rfl, ?yrt25⟩) hH ?rrt25
              case yrt25 => intro w' hS'; go_simp; try with_reducible rfl
              try simp only [zA]
              refine takeQ 26 (.string d.takenRoot) (some 106) rfl rfl (by kernel_rfl) (Or.inl ⟨by rfl, ?yrt26⟩) hH ?rrt26
              case yrt26 => intro w' hS'; obtain ⟨s0, s1, s2⟩ := hS'; obtain ⟨x0, x1, x2, x3⟩ := BH.out _ _ s0; obtain ⟨r1, f1⟩ := s1.rules; go_simp; try with_reducible rfl
              try simp only [zA]
              refine takeQ 27 (.pointer (some ⟨g, 0, none⟩)) (some 107) rfl rfl (by kernel_rfl) (Or.inl ⟨by rfl, ?yrt27⟩) hH ?rrt27
              case yrt27 => intro w' hS'; go_simp; try with_reducible rfl
              try simp only [zA]
              refine takeQ 28 (.int .i64 b.width) (some 108) rfl rfl (by kernel_rfl) (Or.inl ⟨by rfl, ?yrt28⟩) hH ?rrt28
              case yrt28 => intro w' hS'; obtain ⟨s0, s1, s2⟩ := hS'; obtain ⟨x0, x1, x2, x3⟩ := BH.out _ _ s0; obtain ⟨r1, f1⟩ := s1.rules; go_simp; try with_reducible rfl
              try simp only [zA]
              refine takeQ 29 (.slice At TH.length ct) (some 109) rfl rfl (by kernel_rfl) (Or.inl ⟨by rfl, ?yrt29⟩) hH ?rrt29
              case yrt29 => intro w' hS'; obtain ⟨s0, s1, s2⟩ := hS'; obtain ⟨x0, x1, x2, x3⟩ := BH.out _ _ s0; obtain ⟨r1, f1⟩ := s1.rules; go_simp; try with_reducible rfl
              try simp only [zA]
              refine takeQ 30 (.pointer (some ⟨q8, 3, none⟩)) (some 110) rfl rfl (by kernel_rfl) (Or.inl ⟨by rfl, ?yrt30⟩) hH ?rrt30
              case yrt30 => intro w' hS'; go_simp; try with_reducible rfl
              try simp only [zA]
              refine takeQ 31 (.int .i64 d.taken) (some 111) rfl rfl (by kernel_rfl) (Or.inl ⟨by rfl, ?yrt31⟩) hH ?rrt31
              case yrt31 => intro w' hS'; obtain ⟨s0, s1, s2⟩ := hS'; obtain ⟨x0, x1, x2, x3⟩ := BH.out _ _ s0; obtain ⟨r1, f1⟩ := s1.rules; go_simp; try with_reducible rfl
              try simp only [zA]
              refine takeQ 32 (.slice At m2 ct) (some 112) rfl rfl (by kernel_rfl) (Or.inl ⟨by rfl, ?yrt32⟩) hH ?rrt32
              case yrt32 => intro w' hS'; obtain ⟨s0, s1, s2⟩ := hS'; obtain ⟨x0, x1, x2, x3⟩ := BH.out _ _ s0; obtain ⟨r1, f1⟩ := s1.rules; go_simp; try with_reducible rfl
              try simp only [zA]
              refine oneHw 33 (oi := _) (some 113) (by kernel_rfl) rfl (by rfl) rfl (fun K' hK => ?_)
              refine ⟨?_⟩
              rw [if_pos (by rfl)]
              go_simp
              refine (T2.out _ hH.2.2.2.1).mono ?_
              rintro e wg ⟨rfl, h1⟩
              refine hK.out _ _ ⟨_, rfl⟩ (⟨hH.1.ext h1, hH.2.1.ext h1, RowT.ext hH.2.2.1 h1, RowT.ext hH.2.2.2.1 h1, hH.2.2.2.2.next h1⟩) (fun hH2 => ?_)
              clear hK K' hH h1
              have hH := hH2
              clear hH2
              try simp only [zB]
              cases p6 : (d.takenRoot.toList == X2.toList)
              · have q6 := nes_of_beq p6
                refine takeQ 34 (.bool true) (some 114) rfl rfl (by kernel_rfl) (Or.inl ⟨by rfl, ?yrtd1⟩) hH ?rrtd1
                case yrtd1 => intro w' hS'; go_simp; try with_reducible rfl
                try simp only [zA]
                refine takeQ 35 (.bool true) (some 115) rfl rfl (by kernel_rfl) (Or.inl ⟨by rfl, ?yrtd2⟩) hH ?rrtd2
                case yrtd2 => intro w' hS'; go_simp; try with_reducible rfl
                try simp only [zA]
                have E := hU (BADK.out (by rw [SA.out]; rw [p5, p6]; rfl))
                have HE := hU hH.2.2.2.2
                clear hH
                refine wpAnyH_done (by kernel_rfl) ?_ _
                go_wp2_with fail
                go_ret
                exact ⟨ret_bool E.out.symm, HE.out⟩
              have q6 := nes_of_beq p6
              refine takeQ 34 (.bool false) (some 114) rfl rfl (by kernel_rfl) (Or.inl ⟨by rfl, ?yrt33⟩) hH ?rrt33
              case yrt33 => intro w' hS'; go_simp; try with_reducible rfl
              try simp only [zA]
              refine takeQ 35 (.bool false) (some 115) rfl rfl (by kernel_rfl) (Or.inl ⟨by rfl, ?yrt34⟩) hH ?rrt34
              case yrt34 => intro w' hS'; go_simp; try with_reducible rfl
              try simp only [zA]
              have NX := hU (show allTo (sealAt b.width LH TH b.heads) (k + 1) = true from allTo_good Hi.out (by rw [SA.out, p5, p6]; rfl))
              have HH := hU hH
              clear hH p5 p6 q5 q6 p1 p1' p2 p2' SL1 SL2
              refine wpAnyH_done (by kernel_rfl) ?_ _
              go_wp2_with fail
              go_roundw
              case rel => exact ⟨k + 1, by omega, by go_num, NX.out, HH.out.1, HH.out.2.2.1, HH.out.2.2.2.1, HH.out.2.2.2.2⟩
              case measure => simp [intOf]; omega
end Go.Proofs.YtlgdghpnfclgpaaGreat
