/-
  NLog; ConvReceipt; ConvHead: No condition.
-/
import Derived.Test.YtlgdghpnfclgpaaGreatNest
import Derived.Test.YtlgdghpnfclgpaaGreatConvEntry
import Derived.StillTailTactics
import Derived.Test.YtlgdghpnfclgpaaGreatTypes
namespace Go.Proofs.YtlgdghpnfclgpaaGreat
set_option maxHeartbeats 2000000
set_option maxRecDepth 100000
set_option linter.unusedSimpArgs false
open Go.RowKit
set_option linter.unusedVariables false
structure LogD where
 entries : List EntryD
def LogD.In : Rep LogD := fun p w cs d => ∃ (A0 : Option Addr) (c0 : Nat), cs = [.slice A0 d.entries.length c0] ∧ SlF p EntryD.cells 5 w A0 d.entries c0
def LogD.Ok (d : LogD) : Prop := (∀ x ∈ d.entries, x.Ok)
def LogD.lens (d : LogD) : List Nat := (d.entries.length :: d.entries.flatMap EntryD.lens) ++ []
theorem LogD.typed {w : World} {n : Nat} {cs : List Value} (h : Typed Tryz.prog w n 33 cs) : ∃ d : LogD, LogD.In AnyB w cs d ∧ d.Ok := by
 obtain ⟨hl, m, hf⟩ := typed_struct Tryz.underlying33 h
 have hC : Tryz.prog.cellsOf 33 = 1 := by kernel_rfl
 have hs0 : Tryz.prog.cellsOf 31 = 1 := by kernel_rfl
 rw [hC] at hl
 match cs, hl with
 | [x0], _ =>
   have f0 := hf _ (List.mem_iff_getElem?.2 ⟨0, rfl⟩)
   simp only [hs0, List.drop_zero, List.take_succ_cons, List.take_zero] at f0
   obtain ⟨A0, c0, a0, e0, s0, w0⟩ := typed_sliceF EntryD.cells EntryD.Ok 5 Tryz.underlying31 (by kernel_rfl) (by decide) EntryD.cells_length (fun m es h => EntryD.typed h) f0
   obtain rfl : x0 = _ := by simpa using e0
   exact ⟨⟨a0⟩, ⟨_, _, rfl, s0⟩, w0⟩
theorem szLog_any (d : LogD) (A0 : Option Addr) (c0 : Nat) (left : Int) (w : World) (hok : d.Ok) (s0 : SlF AnyB EntryD.cells 5 w A0 d.entries c0) (h0 : 0 ≤ left) (h1 : left ≤ 1048576) :
 Calls Tryz.prog 41 #[.agg #[.slice A0 d.entries.length c0], .int .i64 left] w fun e w' => e = .returned (.int .i64 (szL d.lens left)) ∧ Ext w w' := by
 have k_entries := hok
 have S0 := hU s0; clear s0
 have K_entries := hU k_entries; clear k_entries
 have K0 := hU (Blk.new w 33 #[.slice A0 d.entries.length c0])
 have He := hU (Ext.new (Below.refl w.heap.size w) (.cells #[.slice A0 d.entries.length c0] 33))
 obtain ⟨fin, hfin⟩ : ∃ fin, fin = szL d.lens left := ⟨_, rfl⟩
 have F : Hid (szL ((d.entries.length :: d.entries.flatMap EntryD.lens) ++ []) left = fin) := hU hfin.symm
 rw [← hfin]
 clear hfin
 go_enter Tryz.func41, Tryz.ntmps41
 go_wp2_with fail
 refine (szEntryS_any A0 c0 d.entries left _ (S0.out.ext He.out).reads K_entries.out S0.out.len h0 h1).mono ?_
 rintro e w1 ⟨rfl, hx⟩
 have K1 := K0.out.ext hx; have he := He.out.next hx; clear hx K0 He
 obtain ⟨r0, m0⟩ := K1.rules
 have hp := szL_pos (d.entries.length :: d.entries.flatMap EntryD.lens) left h0
 have hqq := szL_le (d.entries.length :: d.entries.flatMap EntryD.lens) left
 by_cases n0 : szL (d.entries.length :: d.entries.flatMap EntryD.lens) left < 0
 · have E := hU (show (-1 : Int) = fin by rw [← F.out, szL_append _ _ _ h0, if_pos n0])
   have ev : szL (d.entries.length :: d.entries.flatMap EntryD.lens) left = -1 := by omega
   clear hp hqq F
   go_wp2_with fail
   go_ret
   exact ⟨ret_int E.out, he⟩
 have F2 : Hid (szL ([]) (szL (d.entries.length :: d.entries.flatMap EntryD.lens) left) = fin) := hU (by rw [← F.out, szL_append _ _ _ h0, if_neg n0])
 clear F
 have u0 : 0 ≤ szL (d.entries.length :: d.entries.flatMap EntryD.lens) left := by omega
 have v0 : szL (d.entries.length :: d.entries.flatMap EntryD.lens) left ≤ 1048576 := by omega
 clear hp hqq
 generalize szL (d.entries.length :: d.entries.flatMap EntryD.lens) left = q0 at *
 have F := F2
 clear F2
 go_wp2_with fail
 go_ret
 exact ⟨ret_int (show q0 = fin from F.out), he⟩
theorem eqLog_same (d : LogD) (A0 : Option Addr) (c0 : Nat) (B0 : Option Addr) (e0 : Nat) (w : World) (s0 : SlF AnyB EntryD.cells 5 w A0 d.entries c0) (t0 : SlF AnyB EntryD.cells 5 w B0 d.entries e0) (hf : ∀ n ∈ d.lens, n ≤ 1048576) :
 Calls Tryz.prog 53 #[.agg #[.slice A0 d.entries.length c0], .agg #[.slice B0 d.entries.length e0]] w fun e w' => e = .returned (.bool true) ∧ Ext w w' := by
 have l_entries : d.entries.length ≤ 1048576 := hf _ (by simp [LogD.lens])
 have S0 := hU s0; have T0 := hU t0; clear s0 t0
 clear hf
 obtain ⟨K0, K1, he⟩ := two_new w #[.slice A0 d.entries.length c0] #[.slice B0 d.entries.length e0] 51 51
 go_enter Tryz.func53, Tryz.ntmps53
 obtain ⟨r0, f0⟩ := K0.rules
 obtain ⟨r1, f1⟩ := K1.rules
 go_wp2_with fail
 obtain ⟨g, hg⟩ : ∃ g, g = w.heap.size := ⟨_, rfl⟩
 rw [← hg] at K0 K1
 rw [← hg]
 clear hg r0 f0 r1 f1
 refine (eqEntryS_same A0 B0 c0 e0 d.entries _ (S0.out.ext he).reads (T0.out.ext he).reads l_entries).mono ?_
 rintro e x0 ⟨rfl, hx⟩
 replace K0 := K0.ext hx; replace K1 := K1.ext hx; replace he := he.next hx; clear hx
 obtain ⟨r0, f0⟩ := K0.rules
 obtain ⟨r1, f1⟩ := K1.rules
 go_wp2_with fail
 clear r0 f0 r1 f1
 go_ret
 exact ⟨rfl, he⟩
set_option maxHeartbeats 1000000
def ReceiptD.lens (d : ReceiptD) : List Nat := [d.reader.size, d.topic.size]
theorem szReceipt_any (d : ReceiptD) (left : Int) (w : World) (hd : d.Ok) (h0 : 0 ≤ left) (h1 : left ≤ 1048576) :
 Calls Tryz.prog 31 #[.agg #[.string d.reader, .string d.topic, .int .i64 d.index], .int .i64 left] w fun e w' => e = .returned (.int .i64 (szL d.lens left)) ∧ Ext w w' := by
 obtain ⟨k0, k1, k2⟩ := hd
 unfold maxLen at *
 clear k2
 go_enter Tryz.func31, Tryz.ntmps31
 go_wp2
 all_goals
  go_ret
  exact ⟨ret_int (by simp only [szL, ReceiptD.lens]; (repeat' split) <;> omega), by go_grown⟩
theorem toReceipt_any (d : ReceiptD) (w : World) :
 Calls Tryz.prog 33 #[.agg #[.string d.reader, .string d.topic, .int .i64 d.index]] w fun e w' => e = .returned (.agg #[.string d.reader, .string d.topic, .int .i64 d.index]) ∧ Ext w w' := by
 go_enter Tryz.func33, Tryz.ntmps33
 go_wp2
 go_returns
 exact ⟨rfl, by go_grown⟩
theorem eqReceipt_same (d : ReceiptD) (w : World) :
 Calls Tryz.prog 113 #[.agg #[.string d.reader, .string d.topic, .int .i64 d.index], .agg #[.string d.reader, .string d.topic, .int .i64 d.index]] w fun e w' => e = .returned (.bool true) ∧ Ext w w' := by
 go_enter Tryz.func113, Tryz.ntmps113
 go_wp2
 go_ret
 exact ⟨rfl, by go_grown⟩
theorem szReceiptS_any (A : Option Addr) (c : Nat) (l : List ReceiptD) (left : Int) (w : World) (hr : ReadsL w w.heap.size ReceiptD.cells 3 A l) (hok : ∀ d ∈ l, d.Ok) (hl : l.length ≤ maxLen) (h0 : 0 ≤ left) (h1 : left ≤ 1048576) :
 Calls Tryz.prog 42 #[.slice A l.length c, .int .i64 left] w fun e w' => e = .returned (.int .i64 (szL (l.length :: l.flatMap ReceiptD.lens) left)) ∧ Ext w w' := by
 unfold maxLen at hl
 have Hok := hU hok; clear hok
 by_cases c0 : left - (l.length : Int) < 0
 · go_enter Tryz.func42, Tryz.ntmps42
   go_wp2
   go_ret
   exact ⟨ret_int (by simp only [szL]; rw [if_pos c0]), by go_grown⟩
 · obtain ⟨fin, hfin⟩ : ∃ fin, fin = szL (l.length :: l.flatMap ReceiptD.lens) left := ⟨_, rfl⟩
   have Hi : SzInv ReceiptD.lens l fin 0 (left - l.length) := by
    refine ⟨by omega, by omega, ?_⟩
    rw [hfin]; simp only [szL, List.drop_zero]; rw [if_neg c0]
   rw [← hfin]; clear hfin
   go_enter Tryz.func42, Tryz.ntmps42
   go_wp2
   go_loopw [1, 5] (fun r i wr => ∃ (k : Nat) (q : Int), k ≤ l.length ∧ i = .int .i64 k ∧ r = .int .i64 q ∧ 0 ≤ q ∧ q ≤ 1048576 ∧ SzInv ReceiptD.lens l fin k q ∧ Ext w wr) (fun _ i _ => l.length - (intOf i).toNat)
   case atStart => exact ⟨0, _, Nat.zero_le _, rfl, rfl, by omega, by omega, Hi, Below.refl _ _⟩
   case round =>
    obtain ⟨k, q, hk, rfl, rfl, q0, q1, hi, he⟩ := hrel
    by_cases hlt : k < l.length
    · obtain ⟨s1, s2⟩ := hi.step hlt
      obtain ⟨b, off, rfl, hb, hc⟩ := (hr.below he).at_ (k := k) hlt
      obtain ⟨d, hd⟩ : ∃ d, d = l[k] := ⟨_, rfl⟩
      have hdl : l[k]? = some d := by rw [hd]; exact List.getElem?_eq_getElem hlt
      have hdo : d.Ok := Hok.out d (List.mem_of_getElem? hdl)
      have c0 := hc 0 _ (flat_at _ 3 ReceiptD.cells_length l k 0 d hdl (by omega))
      have c1 := hc 1 _ (flat_at _ 3 ReceiptD.cells_length l k 1 d hdl (by omega))
      have c2 := hc 2 _ (flat_at _ 3 ReceiptD.cells_length l k 2 d hdl (by omega))
      rw [Nat.add_zero] at c0
      rw [← hd] at s1 s2
      clear hc hd hdl
      have S1 := hU s1; have S2 := hU s2; clear s1 s2
      go_wp2_with fail
      refine (szReceipt_any d q _ hdo q0 q1).mono ?_
      rintro e w1 ⟨rfl, h1⟩
      replace he := he.next h1; clear h1
      have hp := szL_pos d.lens q q0
      have hq := szL_le d.lens q
      by_cases hn : szL d.lens q < 0
      · have E1 := hU (S1.out hn)
        have e2 : szL d.lens q = -1 := by rcases hp with h | h <;> omega
        clear hp hq S1 S2 Hi hi
        go_wp2_with fail
        go_ret
        exact ⟨ret_int E1.out.symm, he⟩
      · have H2 := hU (S2.out (by omega))
        have n0 : 0 ≤ szL d.lens q := by omega
        have n1 : szL d.lens q ≤ 1048576 := by rcases hq with h | h <;> omega
        clear hp hq S1 S2 Hi hi
        go_wp2_with fail
        go_roundw
        case rel => exact ⟨k + 1, _, by omega, by go_num, rfl, n0, n1, H2.out, he⟩
        case measure => simp [intOf]; omega
    · have E1 := hU (hi.done (by omega))
      clear Hi hi
      go_wp2_with fail
      go_ret
      exact ⟨ret_int E1.out, he⟩
theorem toReceiptS_any (A : Option Addr) (c : Nat) (l : List ReceiptD) (w : World) (hr : ReadsL w w.heap.size ReceiptD.cells 3 A l) (hl : l.length ≤ 1048576) :
 Calls Tryz.prog 48 #[.slice A l.length c] w fun e w' => ∃ g, e = .returned (.slice (some ⟨g, 0, none⟩) l.length l.length) ∧ w.heap.size ≤ g ∧ Blk w' g 77 (l.flatMap ReceiptD.cells).toArray ∧ Ext w w' := by
 obtain ⟨Z, hZ, hmk⟩ := make_any (P := Tryz.prog) (t := 52) (e := 77) (size := 3) (bytes := 40) l.length Tryz.underlying52 (by kernel_rfl) (by omega) hl
 have HZ := hU hZ; clear hZ
 have Hs := hU (Filled.start (f := ReceiptD.cells) (size := 3) (t := 77) (l := l) w Z)
 have He := hU (Ext.new (Below.refl w.heap.size w) (.cells Z 77))
 go_enter Tryz.func48, Tryz.ntmps48
 go_wp2
 obtain ⟨g, hg⟩ : ∃ g, g = w.heap.size := ⟨_, rfl⟩
 rw [← hg]
 rw [← hg] at Hs
 have hg0 : w.heap.size ≤ g := by omega
 clear hg
 go_loopw [4] (fun i wr => ∃ (k : Nat), k ≤ l.length ∧ i = .int .i64 k ∧ Filled ReceiptD.cells 3 77 l g Z k wr ∧ Ext w wr) (fun i _ => l.length - (intOf i).toNat)
 case atStart => exact ⟨0, Nat.zero_le _, rfl, Hs.out, He.out⟩
 case round =>
  obtain ⟨k, hk, rfl, hi, he⟩ := hrel
  by_cases hlt : k < l.length
  · obtain ⟨b, off, rfl, hb, hc⟩ := (hr.below he).at_ (k := k) hlt
    obtain ⟨d, hd⟩ : ∃ d, d = l[k] := ⟨_, rfl⟩
    have hdl : l[k]? = some d := by rw [hd]; exact List.getElem?_eq_getElem hlt
    have c0 := hc 0 _ (flat_at _ 3 ReceiptD.cells_length l k 0 d hdl (by omega))
    have c1 := hc 1 _ (flat_at _ 3 ReceiptD.cells_length l k 1 d hdl (by omega))
    have c2 := hc 2 _ (flat_at _ 3 ReceiptD.cells_length l k 2 d hdl (by omega))
    rw [Nat.add_zero] at c0
    have Hd := hU hd
    clear hc hd hdl
    go_wp2_with fail
    refine (toReceipt_any d _).mono ?_
    rintro e w1 ⟨rfl, h1⟩
    replace he := he.next h1; replace hi := hi.ext h1; clear h1 c0 c1 c2
    have ht := hi.there ReceiptD.cells_length HZ.out hlt
    have Hn := hU (hi.step ReceiptD.cells_length HZ.out hlt)
    rw [← Hd.out] at Hn
    have hz := Blk.frozen hi
    obtain ⟨v0, z0⟩ := Option.isSome_iff_exists.1 (ht 0 (by omega)).1
    obtain ⟨v1, z1⟩ := Option.isSome_iff_exists.1 (ht 1 (by omega)).1
    obtain ⟨v2, z2⟩ := Option.isSome_iff_exists.1 (ht 2 (by omega)).1
    rw [Nat.add_zero] at z0
    clear ht
    go_wp2_with fail
    have He2 := hU (ext_setCells (g := g) (W := w) hg0 d.cells (k * 3) w1 he)
    go_roundw
    case rel => exact ⟨k + 1, by omega, by go_num, Hn.out, He2.out⟩
    case measure => simp [intOf]; omega
  · have Hf := hU (hi.done HZ.out (by omega))
    clear hi
    go_wp2_with fail
    go_ret
    exact ⟨g, rfl, hg0, Hf.out, he⟩
theorem eqReceiptS_same (A A' : Option Addr) (c c' : Nat) (l : List ReceiptD) (w : World) (hr : ReadsL w w.heap.size ReceiptD.cells 3 A l) (hr' : ReadsL w w.heap.size ReceiptD.cells 3 A' l) (hl : l.length ≤ 1048576) :
 Calls Tryz.prog 54 #[.slice A l.length c, .slice A' l.length c'] w fun e w' => e = .returned (.bool true) ∧ Ext w w' := by
 go_enter Tryz.func54, Tryz.ntmps54
 go_wp2
 go_loopw [5] (fun i wr => ∃ (k : Nat), k ≤ l.length ∧ i = .int .i64 k ∧ Ext w wr) (fun i _ => l.length - (intOf i).toNat)
 case atStart => exact ⟨0, Nat.zero_le _, rfl, Below.refl _ _⟩
 case round =>
  obtain ⟨k, hk, rfl, he⟩ := hrel
  by_cases hlt : k < l.length
  · obtain ⟨b, off, rfl, hb, hc⟩ := (hr.below he).at_ (k := k) hlt
    obtain ⟨b', off', rfl, hb', hc'⟩ := (hr'.below he).at_ (k := k) hlt
    obtain ⟨d, hd⟩ : ∃ d, d = l[k] := ⟨_, rfl⟩
    have hdl : l[k]? = some d := by rw [hd]; exact List.getElem?_eq_getElem hlt
    have c0 := hc 0 _ (flat_at _ 3 ReceiptD.cells_length l k 0 d hdl (by omega))
    have c1 := hc 1 _ (flat_at _ 3 ReceiptD.cells_length l k 1 d hdl (by omega))
    have c2 := hc 2 _ (flat_at _ 3 ReceiptD.cells_length l k 2 d hdl (by omega))
    have b0 := hc' 0 _ (flat_at _ 3 ReceiptD.cells_length l k 0 d hdl (by omega))
    have b1 := hc' 1 _ (flat_at _ 3 ReceiptD.cells_length l k 1 d hdl (by omega))
    have b2 := hc' 2 _ (flat_at _ 3 ReceiptD.cells_length l k 2 d hdl (by omega))
    rw [Nat.add_zero] at c0 b0
    clear hc hc' hd hdl
    go_wp2_with fail
    go_still_tail 8, (by kernel_rfl)
    change wpList _ _ _ _ _ wr.drew
    generalize hw : wr.drew = w2
    have he2 : Ext w w2 := by rw [← hw]; exact he.drew
    clear hw he
    go_wp2_with fail
    refine (eqReceipt_same d _).mono ?_
    rintro e w1 ⟨rfl, h1⟩
    replace he2 := he2.next h1; clear h1 c0 c1 c2 b0 b1 b2
    go_wp2_with fail
    go_roundw
    case rel => exact ⟨k + 1, by omega, by go_num, he2⟩
    case measure => simp [intOf]; omega
  · go_wp2_with fail
    go_ret
    exact ⟨rfl, he⟩
def HeadD.lens (d : HeadD) : List Nat := [d.root.size, d.takenRoot.size]
theorem szHead_any (d : HeadD) (left : Int) (w : World) (hd : d.Ok) (h0 : 0 ≤ left) (h1 : left ≤ 1048576) :
 Calls Tryz.prog 96 #[.agg #[.int .i64 d.number, .int .i64 d.size, .string d.root, .int .i64 d.taken, .string d.takenRoot], .int .i64 left] w fun e w' => e = .returned (.int .i64 (szL d.lens left)) ∧ Ext w w' := by
 obtain ⟨k0, k1, k2, k3, k4⟩ := hd
 unfold maxLen at *
 clear k0 k1 k3
 go_enter Tryz.func96, Tryz.ntmps96
 go_wp2
 all_goals
  go_ret
  exact ⟨ret_int (by simp only [szL, HeadD.lens]; (repeat' split) <;> omega), by go_grown⟩
theorem toHead_any (d : HeadD) (w : World) :
 Calls Tryz.prog 107 #[.agg #[.int .i64 d.number, .int .i64 d.size, .string d.root, .int .i64 d.taken, .string d.takenRoot]] w fun e w' => e = .returned (.agg #[.int .i64 d.number, .int .i64 d.size, .string d.root, .int .i64 d.taken, .string d.takenRoot]) ∧ Ext w w' := by
 go_enter Tryz.func107, Tryz.ntmps107
 go_wp2
 go_returns
 exact ⟨rfl, by go_grown⟩
theorem eqHead_same (d : HeadD) (w : World) :
 Calls Tryz.prog 114 #[.agg #[.int .i64 d.number, .int .i64 d.size, .string d.root, .int .i64 d.taken, .string d.takenRoot], .agg #[.int .i64 d.number, .int .i64 d.size, .string d.root, .int .i64 d.taken, .string d.takenRoot]] w fun e w' => e = .returned (.bool true) ∧ Ext w w' := by
 go_enter Tryz.func114, Tryz.ntmps114
 go_wp2
 go_ret
 exact ⟨rfl, by go_grown⟩
theorem szHeadS_any (A : Option Addr) (c : Nat) (l : List HeadD) (left : Int) (w : World) (hr : ReadsL w w.heap.size HeadD.cells 5 A l) (hok : ∀ d ∈ l, d.Ok) (hl : l.length ≤ maxLen) (h0 : 0 ≤ left) (h1 : left ≤ 1048576) :
 Calls Tryz.prog 43 #[.slice A l.length c, .int .i64 left] w fun e w' => e = .returned (.int .i64 (szL (l.length :: l.flatMap HeadD.lens) left)) ∧ Ext w w' := by
 unfold maxLen at hl
 have Hok := hU hok; clear hok
 by_cases c0 : left - (l.length : Int) < 0
 · go_enter Tryz.func43, Tryz.ntmps43
   go_wp2
   go_ret
   exact ⟨ret_int (by simp only [szL]; rw [if_pos c0]), by go_grown⟩
 · obtain ⟨fin, hfin⟩ : ∃ fin, fin = szL (l.length :: l.flatMap HeadD.lens) left := ⟨_, rfl⟩
   have Hi : SzInv HeadD.lens l fin 0 (left - l.length) := by
    refine ⟨by omega, by omega, ?_⟩
    rw [hfin]; simp only [szL, List.drop_zero]; rw [if_neg c0]
   rw [← hfin]; clear hfin
   go_enter Tryz.func43, Tryz.ntmps43
   go_wp2
   go_loopw [1, 5] (fun r i wr => ∃ (k : Nat) (q : Int), k ≤ l.length ∧ i = .int .i64 k ∧ r = .int .i64 q ∧ 0 ≤ q ∧ q ≤ 1048576 ∧ SzInv HeadD.lens l fin k q ∧ Ext w wr) (fun _ i _ => l.length - (intOf i).toNat)
   case atStart => exact ⟨0, _, Nat.zero_le _, rfl, rfl, by omega, by omega, Hi, Below.refl _ _⟩
   case round =>
    obtain ⟨k, q, hk, rfl, rfl, q0, q1, hi, he⟩ := hrel
    by_cases hlt : k < l.length
    · obtain ⟨s1, s2⟩ := hi.step hlt
      obtain ⟨b, off, rfl, hb, hc⟩ := (hr.below he).at_ (k := k) hlt
      obtain ⟨d, hd⟩ : ∃ d, d = l[k] := ⟨_, rfl⟩
      have hdl : l[k]? = some d := by rw [hd]; exact List.getElem?_eq_getElem hlt
      have hdo : d.Ok := Hok.out d (List.mem_of_getElem? hdl)
      have c0 := hc 0 _ (flat_at _ 5 HeadD.cells_length l k 0 d hdl (by omega))
      have c1 := hc 1 _ (flat_at _ 5 HeadD.cells_length l k 1 d hdl (by omega))
      have c2 := hc 2 _ (flat_at _ 5 HeadD.cells_length l k 2 d hdl (by omega))
      have c3 := hc 3 _ (flat_at _ 5 HeadD.cells_length l k 3 d hdl (by omega))
      have c4 := hc 4 _ (flat_at _ 5 HeadD.cells_length l k 4 d hdl (by omega))
      rw [Nat.add_zero] at c0
      rw [← hd] at s1 s2
      clear hc hd hdl
      have S1 := hU s1; have S2 := hU s2; clear s1 s2
      go_wp2_with fail
      refine (szHead_any d q _ hdo q0 q1).mono ?_
      rintro e w1 ⟨rfl, h1⟩
      replace he := he.next h1; clear h1
      have hp := szL_pos d.lens q q0
      have hq := szL_le d.lens q
      by_cases hn : szL d.lens q < 0
      · have E1 := hU (S1.out hn)
        have e2 : szL d.lens q = -1 := by rcases hp with h | h <;> omega
        clear hp hq S1 S2 Hi hi
        go_wp2_with fail
        go_ret
        exact ⟨ret_int E1.out.symm, he⟩
      · have H2 := hU (S2.out (by omega))
        have n0 : 0 ≤ szL d.lens q := by omega
        have n1 : szL d.lens q ≤ 1048576 := by rcases hq with h | h <;> omega
        clear hp hq S1 S2 Hi hi
        go_wp2_with fail
        go_roundw
        case rel => exact ⟨k + 1, _, by omega, by go_num, rfl, n0, n1, H2.out, he⟩
        case measure => simp [intOf]; omega
    · have E1 := hU (hi.done (by omega))
      clear Hi hi
      go_wp2_with fail
      go_ret
      exact ⟨ret_int E1.out, he⟩
theorem toHeadS_any (A : Option Addr) (c : Nat) (l : List HeadD) (w : World) (hr : ReadsL w w.heap.size HeadD.cells 5 A l) (hl : l.length ≤ 1048576) :
 Calls Tryz.prog 49 #[.slice A l.length c] w fun e w' => ∃ g, e = .returned (.slice (some ⟨g, 0, none⟩) l.length l.length) ∧ w.heap.size ≤ g ∧ Blk w' g 55 (l.flatMap HeadD.cells).toArray ∧ Ext w w' := by
 obtain ⟨Z, hZ, hmk⟩ := make_any (P := Tryz.prog) (t := 53) (e := 55) (size := 5) (bytes := 56) l.length Tryz.underlying53 (by kernel_rfl) (by omega) hl
 have HZ := hU hZ; clear hZ
 have Hs := hU (Filled.start (f := HeadD.cells) (size := 5) (t := 55) (l := l) w Z)
 have He := hU (Ext.new (Below.refl w.heap.size w) (.cells Z 55))
 go_enter Tryz.func49, Tryz.ntmps49
 go_wp2
 obtain ⟨g, hg⟩ : ∃ g, g = w.heap.size := ⟨_, rfl⟩
 rw [← hg]
 rw [← hg] at Hs
 have hg0 : w.heap.size ≤ g := by omega
 clear hg
 go_loopw [4] (fun i wr => ∃ (k : Nat), k ≤ l.length ∧ i = .int .i64 k ∧ Filled HeadD.cells 5 55 l g Z k wr ∧ Ext w wr) (fun i _ => l.length - (intOf i).toNat)
 case atStart => exact ⟨0, Nat.zero_le _, rfl, Hs.out, He.out⟩
 case round =>
  obtain ⟨k, hk, rfl, hi, he⟩ := hrel
  by_cases hlt : k < l.length
  · obtain ⟨b, off, rfl, hb, hc⟩ := (hr.below he).at_ (k := k) hlt
    obtain ⟨d, hd⟩ : ∃ d, d = l[k] := ⟨_, rfl⟩
    have hdl : l[k]? = some d := by rw [hd]; exact List.getElem?_eq_getElem hlt
    have c0 := hc 0 _ (flat_at _ 5 HeadD.cells_length l k 0 d hdl (by omega))
    have c1 := hc 1 _ (flat_at _ 5 HeadD.cells_length l k 1 d hdl (by omega))
    have c2 := hc 2 _ (flat_at _ 5 HeadD.cells_length l k 2 d hdl (by omega))
    have c3 := hc 3 _ (flat_at _ 5 HeadD.cells_length l k 3 d hdl (by omega))
    have c4 := hc 4 _ (flat_at _ 5 HeadD.cells_length l k 4 d hdl (by omega))
    rw [Nat.add_zero] at c0
    have Hd := hU hd
    clear hc hd hdl
    go_wp2_with fail
    refine (toHead_any d _).mono ?_
    rintro e w1 ⟨rfl, h1⟩
    replace he := he.next h1; replace hi := hi.ext h1; clear h1 c0 c1 c2 c3 c4
    have ht := hi.there HeadD.cells_length HZ.out hlt
    have Hn := hU (hi.step HeadD.cells_length HZ.out hlt)
    rw [← Hd.out] at Hn
    have hz := Blk.frozen hi
    obtain ⟨v0, z0⟩ := Option.isSome_iff_exists.1 (ht 0 (by omega)).1
    obtain ⟨v1, z1⟩ := Option.isSome_iff_exists.1 (ht 1 (by omega)).1
    obtain ⟨v2, z2⟩ := Option.isSome_iff_exists.1 (ht 2 (by omega)).1
    obtain ⟨v3, z3⟩ := Option.isSome_iff_exists.1 (ht 3 (by omega)).1
    obtain ⟨v4, z4⟩ := Option.isSome_iff_exists.1 (ht 4 (by omega)).1
    rw [Nat.add_zero] at z0
    clear ht
    go_wp2_with fail
    have He2 := hU (ext_setCells (g := g) (W := w) hg0 d.cells (k * 5) w1 he)
    go_roundw
    case rel => exact ⟨k + 1, by omega, by go_num, Hn.out, He2.out⟩
    case measure => simp [intOf]; omega
  · have Hf := hU (hi.done HZ.out (by omega))
    clear hi
    go_wp2_with fail
    go_ret
    exact ⟨g, rfl, hg0, Hf.out, he⟩
theorem eqHeadS_same (A A' : Option Addr) (c c' : Nat) (l : List HeadD) (w : World) (hr : ReadsL w w.heap.size HeadD.cells 5 A l) (hr' : ReadsL w w.heap.size HeadD.cells 5 A' l) (hl : l.length ≤ 1048576) :
 Calls Tryz.prog 55 #[.slice A l.length c, .slice A' l.length c'] w fun e w' => e = .returned (.bool true) ∧ Ext w w' := by
 go_enter Tryz.func55, Tryz.ntmps55
 go_wp2
 go_loopw [5] (fun i wr => ∃ (k : Nat), k ≤ l.length ∧ i = .int .i64 k ∧ Ext w wr) (fun i _ => l.length - (intOf i).toNat)
 case atStart => exact ⟨0, Nat.zero_le _, rfl, Below.refl _ _⟩
 case round =>
  obtain ⟨k, hk, rfl, he⟩ := hrel
  by_cases hlt : k < l.length
  · obtain ⟨b, off, rfl, hb, hc⟩ := (hr.below he).at_ (k := k) hlt
    obtain ⟨b', off', rfl, hb', hc'⟩ := (hr'.below he).at_ (k := k) hlt
    obtain ⟨d, hd⟩ : ∃ d, d = l[k] := ⟨_, rfl⟩
    have hdl : l[k]? = some d := by rw [hd]; exact List.getElem?_eq_getElem hlt
    have c0 := hc 0 _ (flat_at _ 5 HeadD.cells_length l k 0 d hdl (by omega))
    have c1 := hc 1 _ (flat_at _ 5 HeadD.cells_length l k 1 d hdl (by omega))
    have c2 := hc 2 _ (flat_at _ 5 HeadD.cells_length l k 2 d hdl (by omega))
    have c3 := hc 3 _ (flat_at _ 5 HeadD.cells_length l k 3 d hdl (by omega))
    have c4 := hc 4 _ (flat_at _ 5 HeadD.cells_length l k 4 d hdl (by omega))
    have b0 := hc' 0 _ (flat_at _ 5 HeadD.cells_length l k 0 d hdl (by omega))
    have b1 := hc' 1 _ (flat_at _ 5 HeadD.cells_length l k 1 d hdl (by omega))
    have b2 := hc' 2 _ (flat_at _ 5 HeadD.cells_length l k 2 d hdl (by omega))
    have b3 := hc' 3 _ (flat_at _ 5 HeadD.cells_length l k 3 d hdl (by omega))
    have b4 := hc' 4 _ (flat_at _ 5 HeadD.cells_length l k 4 d hdl (by omega))
    rw [Nat.add_zero] at c0 b0
    clear hc hc' hd hdl
    go_wp2_with fail
    go_still_tail 8, (by kernel_rfl)
    change wpList _ _ _ _ _ wr.drew
    generalize hw : wr.drew = w2
    have he2 : Ext w w2 := by rw [← hw]; exact he.drew
    clear hw he
    go_wp2_with fail
    refine (eqHead_same d _).mono ?_
    rintro e w1 ⟨rfl, h1⟩
    replace he2 := he2.next h1; clear h1 c0 c1 c2 c3 c4 b0 b1 b2 b3 b4
    go_wp2_with fail
    go_roundw
    case rel => exact ⟨k + 1, by omega, by go_num, he2⟩
    case measure => simp [intOf]; omega
  · go_wp2_with fail
    go_ret
    exact ⟨rfl, he⟩
end Go.Proofs.YtlgdghpnfclgpaaGreat
