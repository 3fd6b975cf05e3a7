/-
  ItemHash; ConvEntry: No condition.
-/
import Derived.Test.YtlgdghpnfclgpaaGreatMerkle
import Derived.Test.YtlgdghpnfclgpaaGreatLeafText
import Derived.Test.YtlgdghpnfclgpaaGreatTypes
import Derived.StillTailTactics
namespace Go.Proofs.YtlgdghpnfclgpaaGreat
set_option maxHeartbeats 1000000
set_option linter.unusedSimpArgs false
open Go.RowKit
set_option linter.unusedVariables false
def leafHOk (n : Int) (e : EntryD) : Bool := entryOk e && digestOk n 0 (leafText e)
def leafH (n : Int) (e : EntryD) : ByteArray := if entryOk e then digest n 0 (leafText e) else ⟨#[]⟩
def recHOk (n : Int) (r : ReceiptD) : Bool := receiptOk r && digestOk n 2 (receiptText r)
def recH (n : Int) (r : ReceiptD) : ByteArray := if receiptOk r then digest n 2 (receiptText r) else ⟨#[]⟩
theorem octB_size1 (k : Int) : (octB k).size = 1 := rfl
theorem leafText_size (d : EntryD) : (leafText d).size ≤ 1000 := by
 unfold leafText
 by_cases h : entryOk d = true
 · have := entryOk_bounds h
   rw [if_pos h, leafT]
   have e : (lowB d.time.toNat 4).size = 4 := rfl
   have e1 : (⟨#[69]⟩ : ByteArray).size = 1 := rfl
   simp only [ByteArray.size_append, octB_size1, e, e1]
   omega
 · rw [if_neg h]; decide
theorem receiptText_size (d : ReceiptD) : (receiptText d).size ≤ 1000 := by
 unfold receiptText
 by_cases h : receiptOk d = true
 · have h' := h
   simp only [receiptOk, Bool.and_eq_true] at h'
   have s1 := nameOk_size h'.1.1
   have s2 := nameOk_size h'.1.2
   rw [if_pos h, receiptT]
   have e1 : (⟨#[82]⟩ : ByteArray).size = 1 := rfl
   simp only [ByteArray.size_append, octB_size1, e1]
   omega
 · rw [if_neg h]; decide
theorem small_max {b : ByteArray} (h : b.size ≤ 1000) : b.size ≤ maxLen := by unfold maxLen; omega
theorem leafH_yes {n : Int} {e : EntryD} (h : entryOk e = true) : leafH n e = digest n 0 (leafText e) ∧ leafHOk n e = digestOk n 0 (leafText e) := by simp [leafH, leafHOk, h]
theorem leafH_no {n : Int} {e : EntryD} (h : entryOk e = false) : leafH n e = ⟨#[]⟩ ∧ leafHOk n e = false := by simp [leafH, leafHOk, h]
theorem recH_yes {n : Int} {e : ReceiptD} (h : receiptOk e = true) : recH n e = digest n 2 (receiptText e) ∧ recHOk n e = digestOk n 2 (receiptText e) := by simp [recH, recHOk, h]
theorem recH_no {n : Int} {e : ReceiptD} (h : receiptOk e = false) : recH n e = ⟨#[]⟩ ∧ recHOk n e = false := by simp [recH, recHOk, h]
theorem implLeafHash_any (n : Int) (d : EntryD) (w : World) (hd : d.Ok) : Calls Tryz.prog 202 #[.int .i64 n, .agg #[.string d.topic, .int .i64 d.index, .int .i64 d.time, .string d.key, .string d.body]] w fun e w' => e = .returned (.tuple #[.string (leafH n d), .bool (leafHOk n d)]) ∧ Ext w w' := by
 have Hd := hU hd; clear hd
 cases b : entryOk d
 · obtain ⟨e1, e2⟩ := leafH_no (n := n) b
   rw [e1, e2]
   go_enter Tryz.func202, Tryz.ntmps202
   go_wp2_with fail
   refine (LeafText_any d _ Hd.out).mono ?_
   rintro e w1 ⟨rfl, h1⟩
   rw [b]
   go_wp2_with fail
   go_ret2
   exact ⟨rfl, by first | exact h1 | exact Ext.next (Ext.new (Below.refl _ _) _) h1⟩
 · obtain ⟨e1, e2⟩ := leafH_yes (n := n) b
   rw [e1, e2]
   have hs := small_max (leafText_size d)
   go_enter Tryz.func202, Tryz.ntmps202
   go_wp2_with fail
   refine (LeafText_any d _ Hd.out).mono ?_
   rintro e w1 ⟨rfl, h1⟩
   rw [b]
   go_wp2_with fail
   refine (Digest_any n 0 (leafText d) _ hs).mono ?_
   rintro e w2 ⟨rfl, h2⟩
   go_wp2_with fail
   go_ret2
   exact ⟨rfl, by first | exact h1.next h2 | exact Ext.next (Ext.new (Below.refl _ _) _) (h1.next h2)⟩
theorem implReceiptHash_any (n : Int) (d : ReceiptD) (w : World) (hd : d.Ok) : Calls Tryz.prog 203 #[.int .i64 n, .agg #[.string d.reader, .string d.topic, .int .i64 d.index]] w fun e w' => e = .returned (.tuple #[.string (recH n d), .bool (recHOk n d)]) ∧ Ext w w' := by
 have Hd := hU hd; clear hd
 cases b : receiptOk d
 · obtain ⟨e1, e2⟩ := recH_no (n := n) b
   rw [e1, e2]
   go_enter Tryz.func203, Tryz.ntmps203
   go_wp2_with fail
   refine (ReceiptText_any d _ Hd.out).mono ?_
   rintro e w1 ⟨rfl, h1⟩
   rw [b]
   go_wp2_with fail
   go_ret2
   exact ⟨rfl, by first | exact h1 | exact Ext.next (Ext.new (Below.refl _ _) _) h1⟩
 · obtain ⟨e1, e2⟩ := recH_yes (n := n) b
   rw [e1, e2]
   have hs := small_max (receiptText_size d)
   go_enter Tryz.func203, Tryz.ntmps203
   go_wp2_with fail
   refine (ReceiptText_any d _ Hd.out).mono ?_
   rintro e w1 ⟨rfl, h1⟩
   rw [b]
   go_wp2_with fail
   refine (Digest_any n 2 (receiptText d) _ hs).mono ?_
   rintro e w2 ⟨rfl, h2⟩
   go_wp2_with fail
   go_ret2
   exact ⟨rfl, by first | exact h1.next h2 | exact Ext.next (Ext.new (Below.refl _ _) _) (h1.next h2)⟩
theorem specLeafHash_any (n : Int) (d : EntryD) (w : World) (hd : d.Ok) : Calls Tryz.prog 133 #[.int .i64 n, .agg #[.string d.topic, .int .i64 d.index, .int .i64 d.time, .string d.key, .string d.body]] w fun e w' => e = .returned (.tuple #[.string (leafH n d), .bool (leafHOk n d)]) ∧ Ext w w' := by
 have Hd := hU hd; clear hd
 cases b : entryOk d
 · obtain ⟨e1, e2⟩ := leafH_no (n := n) b
   rw [e1, e2]
   go_enter Tryz.func133, Tryz.ntmps133
   go_wp2_with fail
   refine (specLeafText_any d _ Hd.out).mono ?_
   rintro e w1 ⟨rfl, h1⟩
   rw [b]
   go_wp2_with fail
   go_ret2
   exact ⟨rfl, by first | exact h1 | exact Ext.next (Ext.new (Below.refl _ _) _) h1⟩
 · obtain ⟨e1, e2⟩ := leafH_yes (n := n) b
   rw [e1, e2]
   have hs := small_max (leafText_size d)
   go_enter Tryz.func133, Tryz.ntmps133
   go_wp2_with fail
   refine (specLeafText_any d _ Hd.out).mono ?_
   rintro e w1 ⟨rfl, h1⟩
   rw [b]
   go_wp2_with fail
   refine (specDigest_any n 0 (leafText d) _ hs).mono ?_
   rintro e w2 ⟨rfl, h2⟩
   go_wp2_with fail
   go_ret2
   exact ⟨rfl, by first | exact h1.next h2 | exact Ext.next (Ext.new (Below.refl _ _) _) (h1.next h2)⟩
theorem specReceiptHash_any (n : Int) (d : ReceiptD) (w : World) (hd : d.Ok) : Calls Tryz.prog 134 #[.int .i64 n, .agg #[.string d.reader, .string d.topic, .int .i64 d.index]] w fun e w' => e = .returned (.tuple #[.string (recH n d), .bool (recHOk n d)]) ∧ Ext w w' := by
 have Hd := hU hd; clear hd
 cases b : receiptOk d
 · obtain ⟨e1, e2⟩ := recH_no (n := n) b
   rw [e1, e2]
   go_enter Tryz.func134, Tryz.ntmps134
   go_wp2_with fail
   refine (specReceiptText_any d _ Hd.out).mono ?_
   rintro e w1 ⟨rfl, h1⟩
   rw [b]
   go_wp2_with fail
   go_ret2
   exact ⟨rfl, by first | exact h1 | exact Ext.next (Ext.new (Below.refl _ _) _) h1⟩
 · obtain ⟨e1, e2⟩ := recH_yes (n := n) b
   rw [e1, e2]
   have hs := small_max (receiptText_size d)
   go_enter Tryz.func134, Tryz.ntmps134
   go_wp2_with fail
   refine (specReceiptText_any d _ Hd.out).mono ?_
   rintro e w1 ⟨rfl, h1⟩
   rw [b]
   go_wp2_with fail
   refine (specDigest_any n 2 (receiptText d) _ hs).mono ?_
   rintro e w2 ⟨rfl, h2⟩
   go_wp2_with fail
   go_ret2
   exact ⟨rfl, by first | exact h1.next h2 | exact Ext.next (Ext.new (Below.refl _ _) _) (h1.next h2)⟩
set_option maxRecDepth 100000
def EntryD.lens (d : EntryD) : List Nat := [d.topic.size, d.key.size, d.body.size]
theorem szEntry_any (d : EntryD) (left : Int) (w : World) (hd : d.Ok) (h0 : 0 ≤ left) (h1 : left ≤ 1048576) :
 Calls Tryz.prog 166 #[.agg #[.string d.topic, .int .i64 d.index, .int .i64 d.time, .string d.key, .string d.body], .int .i64 left] w fun e w' => e = .returned (.int .i64 (szL d.lens left)) ∧ Ext w w' := by
 obtain ⟨k0, k1, k2, k3, k4⟩ := hd
 unfold maxLen at *
 clear k1 k2
 go_enter Tryz.func166, Tryz.ntmps166
 go_wp2
 all_goals
  go_ret
  exact ⟨ret_int (by simp only [szL, EntryD.lens]; (repeat' split) <;> omega), by go_grown⟩
theorem toEntry_any (d : EntryD) (w : World) :
 Calls Tryz.prog 174 #[.agg #[.string d.topic, .int .i64 d.index, .int .i64 d.time, .string d.key, .string d.body]] w fun e w' => e = .returned (.agg #[.string d.topic, .int .i64 d.index, .int .i64 d.time, .string d.key, .string d.body]) ∧ Ext w w' := by
 go_enter Tryz.func174, Tryz.ntmps174
 go_wp2
 go_returns
 exact ⟨rfl, by go_grown⟩
theorem eqEntry_same (d : EntryD) (w : World) :
 Calls Tryz.prog 18 #[.agg #[.string d.topic, .int .i64 d.index, .int .i64 d.time, .string d.key, .string d.body], .agg #[.string d.topic, .int .i64 d.index, .int .i64 d.time, .string d.key, .string d.body]] w fun e w' => e = .returned (.bool true) ∧ Ext w w' := by
 go_enter Tryz.func18, Tryz.ntmps18
 go_wp2
 go_ret
 exact ⟨rfl, by go_grown⟩
theorem szEntryS_any (A : Option Addr) (c : Nat) (l : List EntryD) (left : Int) (w : World) (hr : ReadsL w w.heap.size EntryD.cells 5 A l) (hok : ∀ d ∈ l, d.Ok) (hl : l.length ≤ maxLen) (h0 : 0 ≤ left) (h1 : left ≤ 1048576) :
 Calls Tryz.prog 95 #[.slice A l.length c, .int .i64 left] w fun e w' => e = .returned (.int .i64 (szL (l.length :: l.flatMap EntryD.lens) left)) ∧ Ext w w' := by
 unfold maxLen at hl
 have Hok := hU hok; clear hok
 by_cases c0 : left - (l.length : Int) < 0
 · go_enter Tryz.func95, Tryz.ntmps95
   go_wp2
   go_ret
   exact ⟨ret_int (by simp only [szL]; rw [if_pos c0]), by go_grown⟩
 · obtain ⟨fin, hfin⟩ : ∃ fin, fin = szL (l.length :: l.flatMap EntryD.lens) left := ⟨_, rfl⟩
   have Hi : SzInv EntryD.lens l fin 0 (left - l.length) := by
    refine ⟨by omega, by omega, ?_⟩
    rw [hfin]; simp only [szL, List.drop_zero]; rw [if_neg c0]
   rw [← hfin]; clear hfin
   go_enter Tryz.func95, Tryz.ntmps95
   go_wp2
   go_loopw [1, 5] (fun r i wr => ∃ (k : Nat) (q : Int), k ≤ l.length ∧ i = .int .i64 k ∧ r = .int .i64 q ∧ 0 ≤ q ∧ q ≤ 1048576 ∧ SzInv EntryD.lens l fin k q ∧ Ext w wr) (fun _ i _ => l.length - (intOf i).toNat)
   case atStart => exact ⟨0, _, Nat.zero_le _, rfl, rfl, by omega, by omega, Hi, Below.refl _ _⟩
   case round =>
    obtain ⟨k, q, hk, rfl, rfl, q0, q1, hi, he⟩ := hrel
    by_cases hlt : k < l.length
    · obtain ⟨s1, s2⟩ := hi.step hlt
      obtain ⟨b, off, rfl, hb, hc⟩ := (hr.below he).at_ (k := k) hlt
      obtain ⟨d, hd⟩ : ∃ d, d = l[k] := ⟨_, rfl⟩
      have hdl : l[k]? = some d := by rw [hd]; exact List.getElem?_eq_getElem hlt
      have hdo : d.Ok := Hok.out d (List.mem_of_getElem? hdl)
      have c0 := hc 0 _ (flat_at _ 5 EntryD.cells_length l k 0 d hdl (by omega))
      have c1 := hc 1 _ (flat_at _ 5 EntryD.cells_length l k 1 d hdl (by omega))
      have c2 := hc 2 _ (flat_at _ 5 EntryD.cells_length l k 2 d hdl (by omega))
      have c3 := hc 3 _ (flat_at _ 5 EntryD.cells_length l k 3 d hdl (by omega))
      have c4 := hc 4 _ (flat_at _ 5 EntryD.cells_length l k 4 d hdl (by omega))
      rw [Nat.add_zero] at c0
      rw [← hd] at s1 s2
      clear hc hd hdl
      have S1 := hU s1; have S2 := hU s2; clear s1 s2
      go_wp2_with fail
      refine (szEntry_any d q _ hdo q0 q1).mono ?_
      rintro e w1 ⟨rfl, h1⟩
      replace he := he.next h1; clear h1
      have hp := szL_pos d.lens q q0
      have hq := szL_le d.lens q
      by_cases hn : szL d.lens q < 0
      · have E1 := hU (S1.out hn)
        have e2 : szL d.lens q = -1 := by rcases hp with h | h <;> omega
        clear hp hq S1 S2 Hi hi
        go_wp2_with fail
        go_ret
        exact ⟨ret_int E1.out.symm, he⟩
      · have H2 := hU (S2.out (by omega))
        have n0 : 0 ≤ szL d.lens q := by omega
        have n1 : szL d.lens q ≤ 1048576 := by rcases hq with h | h <;> omega
        clear hp hq S1 S2 Hi hi
        go_wp2_with fail
        go_roundw
        case rel => exact ⟨k + 1, _, by omega, by go_num, rfl, n0, n1, H2.out, he⟩
        case measure => simp [intOf]; omega
    · have E1 := hU (hi.done (by omega))
      clear Hi hi
      go_wp2_with fail
      go_ret
      exact ⟨ret_int E1.out, he⟩
theorem toEntryS_any (A : Option Addr) (c : Nat) (l : List EntryD) (w : World) (hr : ReadsL w w.heap.size EntryD.cells 5 A l) (hl : l.length ≤ 1048576) :
 Calls Tryz.prog 106 #[.slice A l.length c] w fun e w' => ∃ g, e = .returned (.slice (some ⟨g, 0, none⟩) l.length l.length) ∧ w.heap.size ≤ g ∧ Blk w' g 46 (l.flatMap EntryD.cells).toArray ∧ Ext w w' := by
 obtain ⟨Z, hZ, hmk⟩ := make_any (P := Tryz.prog) (t := 49) (e := 46) (size := 5) (bytes := 64) l.length Tryz.underlying49 (by kernel_rfl) (by omega) hl
 have HZ := hU hZ; clear hZ
 have Hs := hU (Filled.start (f := EntryD.cells) (size := 5) (t := 46) (l := l) w Z)
 have He := hU (Ext.new (Below.refl w.heap.size w) (.cells Z 46))
 go_enter Tryz.func106, Tryz.ntmps106
 go_wp2
 obtain ⟨g, hg⟩ : ∃ g, g = w.heap.size := ⟨_, rfl⟩
 rw [← hg]
 rw [← hg] at Hs
 have hg0 : w.heap.size ≤ g := by omega
 clear hg
 go_loopw [4] (fun i wr => ∃ (k : Nat), k ≤ l.length ∧ i = .int .i64 k ∧ Filled EntryD.cells 5 46 l g Z k wr ∧ Ext w wr) (fun i _ => l.length - (intOf i).toNat)
 case atStart => exact ⟨0, Nat.zero_le _, rfl, Hs.out, He.out⟩
 case round =>
  obtain ⟨k, hk, rfl, hi, he⟩ := hrel
  by_cases hlt : k < l.length
  · obtain ⟨b, off, rfl, hb, hc⟩ := (hr.below he).at_ (k := k) hlt
    obtain ⟨d, hd⟩ : ∃ d, d = l[k] := ⟨_, rfl⟩
    have hdl : l[k]? = some d := by rw [hd]; exact List.getElem?_eq_getElem hlt
    have c0 := hc 0 _ (flat_at _ 5 EntryD.cells_length l k 0 d hdl (by omega))
    have c1 := hc 1 _ (flat_at _ 5 EntryD.cells_length l k 1 d hdl (by omega))
    have c2 := hc 2 _ (flat_at _ 5 EntryD.cells_length l k 2 d hdl (by omega))
    have c3 := hc 3 _ (flat_at _ 5 EntryD.cells_length l k 3 d hdl (by omega))
    have c4 := hc 4 _ (flat_at _ 5 EntryD.cells_length l k 4 d hdl (by omega))
    rw [Nat.add_zero] at c0
    have Hd := hU hd
    clear hc hd hdl
    go_wp2_with fail
    refine (toEntry_any d _).mono ?_
    rintro e w1 ⟨rfl, h1⟩
    replace he := he.next h1; replace hi := hi.ext h1; clear h1 c0 c1 c2 c3 c4
    have ht := hi.there EntryD.cells_length HZ.out hlt
    have Hn := hU (hi.step EntryD.cells_length HZ.out hlt)
    rw [← Hd.out] at Hn
    have hz := Blk.frozen hi
    obtain ⟨v0, z0⟩ := Option.isSome_iff_exists.1 (ht 0 (by omega)).1
    obtain ⟨v1, z1⟩ := Option.isSome_iff_exists.1 (ht 1 (by omega)).1
    obtain ⟨v2, z2⟩ := Option.isSome_iff_exists.1 (ht 2 (by omega)).1
    obtain ⟨v3, z3⟩ := Option.isSome_iff_exists.1 (ht 3 (by omega)).1
    obtain ⟨v4, z4⟩ := Option.isSome_iff_exists.1 (ht 4 (by omega)).1
    rw [Nat.add_zero] at z0
    clear ht
    go_wp2_with fail
    have He2 := hU (ext_setCells (g := g) (W := w) hg0 d.cells (k * 5) w1 he)
    go_roundw
    case rel => exact ⟨k + 1, by omega, by go_num, Hn.out, He2.out⟩
    case measure => simp [intOf]; omega
  · have Hf := hU (hi.done HZ.out (by omega))
    clear hi
    go_wp2_with fail
    go_ret
    exact ⟨g, rfl, hg0, Hf.out, he⟩
theorem eqEntryS_same (A A' : Option Addr) (c c' : Nat) (l : List EntryD) (w : World) (hr : ReadsL w w.heap.size EntryD.cells 5 A l) (hr' : ReadsL w w.heap.size EntryD.cells 5 A' l) (hl : l.length ≤ 1048576) :
 Calls Tryz.prog 112 #[.slice A l.length c, .slice A' l.length c'] w fun e w' => e = .returned (.bool true) ∧ Ext w w' := by
 go_enter Tryz.func112, Tryz.ntmps112
 go_wp2
 go_loopw [5] (fun i wr => ∃ (k : Nat), k ≤ l.length ∧ i = .int .i64 k ∧ Ext w wr) (fun i _ => l.length - (intOf i).toNat)
 case atStart => exact ⟨0, Nat.zero_le _, rfl, Below.refl _ _⟩
 case round =>
  obtain ⟨k, hk, rfl, he⟩ := hrel
  by_cases hlt : k < l.length
  · obtain ⟨b, off, rfl, hb, hc⟩ := (hr.below he).at_ (k := k) hlt
    obtain ⟨b', off', rfl, hb', hc'⟩ := (hr'.below he).at_ (k := k) hlt
    obtain ⟨d, hd⟩ : ∃ d, d = l[k] := ⟨_, rfl⟩
    have hdl : l[k]? = some d := by rw [hd]; exact List.getElem?_eq_getElem hlt
    have c0 := hc 0 _ (flat_at _ 5 EntryD.cells_length l k 0 d hdl (by omega))
    have c1 := hc 1 _ (flat_at _ 5 EntryD.cells_length l k 1 d hdl (by omega))
    have c2 := hc 2 _ (flat_at _ 5 EntryD.cells_length l k 2 d hdl (by omega))
    have c3 := hc 3 _ (flat_at _ 5 EntryD.cells_length l k 3 d hdl (by omega))
    have c4 := hc 4 _ (flat_at _ 5 EntryD.cells_length l k 4 d hdl (by omega))
    have b0 := hc' 0 _ (flat_at _ 5 EntryD.cells_length l k 0 d hdl (by omega))
    have b1 := hc' 1 _ (flat_at _ 5 EntryD.cells_length l k 1 d hdl (by omega))
    have b2 := hc' 2 _ (flat_at _ 5 EntryD.cells_length l k 2 d hdl (by omega))
    have b3 := hc' 3 _ (flat_at _ 5 EntryD.cells_length l k 3 d hdl (by omega))
    have b4 := hc' 4 _ (flat_at _ 5 EntryD.cells_length l k 4 d hdl (by omega))
    rw [Nat.add_zero] at c0 b0
    clear hc hc' hd hdl
    go_wp2_with fail
    go_still_tail 8, (by kernel_rfl)
    change wpList _ _ _ _ _ wr.drew
    generalize hw : wr.drew = w2
    have he2 : Ext w w2 := by rw [← hw]; exact he.drew
    clear hw he
    go_wp2_with fail
    refine (eqEntry_same d _).mono ?_
    rintro e w1 ⟨rfl, h1⟩
    replace he2 := he2.next h1; clear h1 c0 c1 c2 c3 c4 b0 b1 b2 b3 b4
    go_wp2_with fail
    go_roundw
    case rel => exact ⟨k + 1, by omega, by go_num, he2⟩
    case measure => simp [intOf]; omega
  · go_wp2_with fail
    go_ret
    exact ⟨rfl, he⟩
end Go.Proofs.YtlgdghpnfclgpaaGreat
