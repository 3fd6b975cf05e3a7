/-
  The laws' own copying and comparing functions at Given: walks. Written by program (gen_conv.py). No condition.
-/
import Derived.Test.YtichegndafnjeaaDoorTypes
import Derived.Test.YtichegndafnjeaaDoorConvEntry
import Derived.StillTailTactics
namespace Go.Proofs.YtichegndafnjeaaDoor
set_option linter.unusedSimpArgs false
open Go.RowKit
set_option linter.unusedVariables false

def GivenD.lens (d : GivenD) : List Nat := [d.entry.topic.size, d.entry.key.size, d.entry.body.size]
theorem szGiven_any (d : GivenD) (left : Int) (w : World) (hd : d.Ok) (h0 : 0 ≤ left) (h1 : left ≤ 1048576) :
    Calls Tryd.prog 35 #[.agg #[.int .i64 d.who, .int .i64 d.leaf, .string d.entry.topic, .int .i64 d.entry.index, .int .i64 d.entry.time, .string d.entry.key, .string d.entry.body], .int .i64 left] w fun e w' => e = .returned (.int .i64 (szL d.lens left)) ∧ Ext w w' := by
  have hd' : d.entry.Ok := by unfold GivenD.Ok at hd; exact ⟨hd.2.2.1, hd.2.2.2.1, hd.2.2.2.2.1, hd.2.2.2.2.2.1, hd.2.2.2.2.2.2⟩
  clear hd
  have he := Ext.new (Below.refl w.heap.size w) (.cells #[.int .i64 d.who, .int .i64 d.leaf, .string d.entry.topic, .int .i64 d.entry.index, .int .i64 d.entry.time, .string d.entry.key, .string d.entry.body] 97)
  have hl : d.lens = d.entry.lens := rfl
  have Hl := Lib.hid hl; clear hl
  go_enter Tryd.func35, Tryd.ntmps35
  go_wp2_with fail
  refine (szEntry_any d.entry left _ hd' h0 h1).mono ?_
  rintro e w1 ⟨rfl, h1⟩
  replace he := he.next h1; clear h1
  have hp := szL_pos d.entry.lens left h0
  by_cases hn : szL d.entry.lens left < 0
  · have e2 : szL d.entry.lens left = -1 := by rcases hp with h | h <;> omega
    clear hp
    go_wp2_with fail
    go_ret
    exact ⟨ret_int (by rw [Hl.out, e2]), he⟩
  · clear hp
    go_wp2_with fail
    go_ret
    exact ⟨ret_int (by rw [Hl.out]), he⟩
set_option maxHeartbeats 1000000 in
theorem toGiven_any (d : GivenD) (w : World) :
    Calls Tryd.prog 44 #[.agg #[.int .i64 d.who, .int .i64 d.leaf, .string d.entry.topic, .int .i64 d.entry.index, .int .i64 d.entry.time, .string d.entry.key, .string d.entry.body]] w fun e w' => e = .returned (.agg #[.int .i64 d.who, .int .i64 d.leaf, .string d.entry.topic, .int .i64 d.entry.index, .int .i64 d.entry.time, .string d.entry.key, .string d.entry.body]) ∧ Ext w w' := by
  go_enter Tryd.func44, Tryd.ntmps44
  go_wp2_with fail
  refine (toEntry_any d.entry _).mono ?_
  rintro e w1 ⟨rfl, h1⟩
  have B1 := ((Blk.new _ _ _).alloc _).ext h1
  have B2 := (Blk.new _ _ _).ext h1
  have he := (Ext.new (Ext.new (Ext.new (Below.refl _ w) _) _) _).next h1
  simp only [World.size_alloc] at B1 B2
  clear h1
  obtain ⟨r1, f1⟩ := B1.rules
  obtain ⟨r2, f2⟩ := B2.rules
  go_upto_region 5 with fail
  have he2 := ext_setCells (W := w) (g := w.heap.size + 1 + 1) (by omega) d.entry.cells 2 w1 he
  have C2 := B2.put 2 d.entry.cells #[.int .i64 d.who, .int .i64 d.leaf, .string d.entry.topic, .int .i64 d.entry.index, .int .i64 d.entry.time, .string d.entry.key, .string d.entry.body] (by simp [EntryD.cells]) rfl
  have C1 := B1.farCells (g' := w.heap.size + 1 + 1) (by omega) d.entry.cells 2
  clear r1 f1 r2 f2 B1 B2 he
  change Code.wp _ _ _ _ (w1.setCells (w.heap.size + 1 + 1) 2 d.entry.cells)
  generalize w1.setCells (w.heap.size + 1 + 1) 2 d.entry.cells = w2 at *
  obtain ⟨r1, f1⟩ := C1.rules
  obtain ⟨r2, f2⟩ := C2.rules
  go_wp2_with fail
  have he3 := ext_setCells (W := w) (g := w.heap.size + 1) (by omega) d.cells 0 w2 he2
  have D1 := C1.put 0 d.cells d.cells.toArray (by simp [GivenD.cells]) rfl
  change bodyPost _ _ _ _ _ (w2.setCells (w.heap.size + 1) 0 d.cells)
  clear r1 f1 r2 f2 C1 C2 he2
  generalize w2.setCells (w.heap.size + 1) 0 d.cells = w3 at *
  exact ret_row rfl rfl D1 Tryd.underlying116 rfl (by kernel_rfl) rfl ⟨rfl, he3⟩
theorem eqGiven_same (d : GivenD) (w : World) :
    Calls Tryd.prog 53 #[.agg #[.int .i64 d.who, .int .i64 d.leaf, .string d.entry.topic, .int .i64 d.entry.index, .int .i64 d.entry.time, .string d.entry.key, .string d.entry.body], .agg #[.int .i64 d.who, .int .i64 d.leaf, .string d.entry.topic, .int .i64 d.entry.index, .int .i64 d.entry.time, .string d.entry.key, .string d.entry.body]] w fun e w' => e = .returned (.bool true) ∧ Ext w w' := by
  have he := Ext.new (Ext.new (Below.refl w.heap.size w) (.cells #[.int .i64 d.who, .int .i64 d.leaf, .string d.entry.topic, .int .i64 d.entry.index, .int .i64 d.entry.time, .string d.entry.key, .string d.entry.body] 116)) (.cells #[.int .i64 d.who, .int .i64 d.leaf, .string d.entry.topic, .int .i64 d.entry.index, .int .i64 d.entry.time, .string d.entry.key, .string d.entry.body] 116)
  go_enter Tryd.func53, Tryd.ntmps53
  go_wp2_with fail
  refine (eqEntry_same d.entry _).mono ?_
  rintro e w1 ⟨rfl, h1⟩
  replace he := he.next h1; clear h1
  go_wp2_with fail
  go_ret
  exact ⟨rfl, he⟩

set_option maxHeartbeats 1000000 in
set_option maxRecDepth 100000 in
theorem szGivenS_any (A : Option Addr) (c : Nat) (l : List GivenD) (left : Int) (w : World) (hr : ReadsL w w.heap.size GivenD.cells 7 A l) (hok : ∀ d ∈ l, d.Ok) (hl : l.length ≤ maxLen) (h0 : 0 ≤ left) (h1 : left ≤ 1048576) :
    Calls Tryd.prog 12 #[.slice A l.length c, .int .i64 left] w fun e w' => e = .returned (.int .i64 (szL (l.length :: l.flatMap GivenD.lens) left)) ∧ Ext w w' := by
  unfold maxLen at hl
  have Hok := Lib.hid hok; clear hok
  by_cases c0 : left - (l.length : Int) < 0
  · go_enter Tryd.func12, Tryd.ntmps12
    go_wp2
    go_ret
    exact ⟨ret_int (by simp only [szL]; rw [if_pos c0]), by go_grown⟩
  · obtain ⟨fin, hfin⟩ : ∃ fin, fin = szL (l.length :: l.flatMap GivenD.lens) left := ⟨_, rfl⟩
    have Hi : SzInv GivenD.lens l fin 0 (left - l.length) := by
      refine ⟨by omega, by omega, ?_⟩
      rw [hfin]; simp only [szL, List.drop_zero]; rw [if_neg c0]
    rw [← hfin]; clear hfin
    go_enter Tryd.func12, Tryd.ntmps12
    go_wp2
    go_loopw [1, 5] (fun r i wr => ∃ (k : Nat) (q : Int), k ≤ l.length ∧ i = .int .i64 k ∧ r = .int .i64 q ∧ 0 ≤ q ∧ q ≤ 1048576 ∧ SzInv GivenD.lens l fin k q ∧ Ext w wr) (fun _ i _ => l.length - (intOf i).toNat)
    case atStart => exact ⟨0, _, Nat.zero_le _, rfl, rfl, by omega, by omega, Hi, Below.refl _ _⟩
    case round =>
      obtain ⟨k, q, hk, rfl, rfl, q0, q1, hi, he⟩ := hrel
      by_cases hlt : k < l.length
      · obtain ⟨s1, s2⟩ := hi.step hlt
        obtain ⟨b, off, rfl, hb, hc⟩ := (hr.below he).at_ (k := k) hlt
        obtain ⟨d, hd⟩ : ∃ d, d = l[k] := ⟨_, rfl⟩
        have hdl : l[k]? = some d := by rw [hd]; exact List.getElem?_eq_getElem hlt
        have hdo : d.Ok := Hok.out d (List.mem_of_getElem? hdl)
        have c0 := hc 0 _ (flat_at _ 7 GivenD.cells_length l k 0 d hdl (by omega))
        have c1 := hc 1 _ (flat_at _ 7 GivenD.cells_length l k 1 d hdl (by omega))
        have c2 := hc 2 _ (flat_at _ 7 GivenD.cells_length l k 2 d hdl (by omega))
        have c3 := hc 3 _ (flat_at _ 7 GivenD.cells_length l k 3 d hdl (by omega))
        have c4 := hc 4 _ (flat_at _ 7 GivenD.cells_length l k 4 d hdl (by omega))
        have c5 := hc 5 _ (flat_at _ 7 GivenD.cells_length l k 5 d hdl (by omega))
        have c6 := hc 6 _ (flat_at _ 7 GivenD.cells_length l k 6 d hdl (by omega))
        rw [Nat.add_zero] at c0
        rw [← hd] at s1 s2
        clear hc hd hdl
        have S1 := Lib.hid s1; have S2 := Lib.hid s2; clear s1 s2
        go_wp2_with fail
        refine (szGiven_any d q _ hdo q0 q1).mono ?_
        rintro e w1 ⟨rfl, h1⟩
        replace he := he.next h1; clear h1
        have hp := szL_pos d.lens q q0
        have hq := szL_le d.lens q
        by_cases hn : szL d.lens q < 0
        · have E1 := Lib.hid (S1.out hn)
          have e2 : szL d.lens q = -1 := by rcases hp with h | h <;> omega
          clear hp hq S1 S2 Hi hi
          go_wp2_with fail
          go_ret
          exact ⟨ret_int E1.out.symm, he⟩
        · have H2 := Lib.hid (S2.out (by omega))
          have n0 : 0 ≤ szL d.lens q := by omega
          have n1 : szL d.lens q ≤ 1048576 := by rcases hq with h | h <;> omega
          clear hp hq S1 S2 Hi hi
          go_wp2_with fail
          go_roundw
          case rel => exact ⟨k + 1, _, by omega, by go_num, rfl, n0, n1, H2.out, he⟩
          case measure => simp [intOf]; omega
      · have E1 := Lib.hid (hi.done (by omega))
        clear Hi hi
        go_wp2_with fail
        go_ret
        exact ⟨ret_int E1.out, he⟩
set_option maxHeartbeats 1000000 in
set_option maxRecDepth 100000 in
theorem toGivenS_any (A : Option Addr) (c : Nat) (l : List GivenD) (w : World) (hr : ReadsL w w.heap.size GivenD.cells 7 A l) (hl : l.length ≤ 1048576) :
    Calls Tryd.prog 20 #[.slice A l.length c] w fun e w' => ∃ g, e = .returned (.slice (some ⟨g, 0, none⟩) l.length l.length) ∧ w.heap.size ≤ g ∧ Blk w' g 116 (l.flatMap GivenD.cells).toArray ∧ Ext w w' := by
  obtain ⟨Z, hZ, hmk⟩ := make_any (P := Tryd.prog) (t := 58) (e := 116) (size := 7) (bytes := 80) l.length Tryd.underlying58 (by kernel_rfl) (by omega) hl
  have HZ := Lib.hid hZ; clear hZ
  have Hs := Lib.hid (Filled.start (f := GivenD.cells) (size := 7) (t := 116) (l := l) w Z)
  have He := Lib.hid (Ext.new (Below.refl w.heap.size w) (.cells Z 116))
  go_enter Tryd.func20, Tryd.ntmps20
  go_wp2
  obtain ⟨g, hg⟩ : ∃ g, g = w.heap.size := ⟨_, rfl⟩
  rw [← hg]
  rw [← hg] at Hs
  have hg0 : w.heap.size ≤ g := by omega
  clear hg
  go_loopw [4] (fun i wr => ∃ (k : Nat), k ≤ l.length ∧ i = .int .i64 k ∧ Filled GivenD.cells 7 116 l g Z k wr ∧ Ext w wr) (fun i _ => l.length - (intOf i).toNat)
  case atStart => exact ⟨0, Nat.zero_le _, rfl, Hs.out, He.out⟩
  case round =>
    obtain ⟨k, hk, rfl, hi, he⟩ := hrel
    by_cases hlt : k < l.length
    · obtain ⟨b, off, rfl, hb, hc⟩ := (hr.below he).at_ (k := k) hlt
      obtain ⟨d, hd⟩ : ∃ d, d = l[k] := ⟨_, rfl⟩
      have hdl : l[k]? = some d := by rw [hd]; exact List.getElem?_eq_getElem hlt
      have c0 := hc 0 _ (flat_at _ 7 GivenD.cells_length l k 0 d hdl (by omega))
      have c1 := hc 1 _ (flat_at _ 7 GivenD.cells_length l k 1 d hdl (by omega))
      have c2 := hc 2 _ (flat_at _ 7 GivenD.cells_length l k 2 d hdl (by omega))
      have c3 := hc 3 _ (flat_at _ 7 GivenD.cells_length l k 3 d hdl (by omega))
      have c4 := hc 4 _ (flat_at _ 7 GivenD.cells_length l k 4 d hdl (by omega))
      have c5 := hc 5 _ (flat_at _ 7 GivenD.cells_length l k 5 d hdl (by omega))
      have c6 := hc 6 _ (flat_at _ 7 GivenD.cells_length l k 6 d hdl (by omega))
      rw [Nat.add_zero] at c0
      have Hd := Lib.hid hd
      clear hc hd hdl
      go_wp2_with fail
      refine (toGiven_any d _).mono ?_
      rintro e w1 ⟨rfl, h1⟩
      replace he := he.next h1; replace hi := hi.ext h1; clear h1 c0 c1 c2 c3 c4 c5 c6
      have ht := hi.there GivenD.cells_length HZ.out hlt
      have Hn := Lib.hid (hi.step GivenD.cells_length HZ.out hlt)
      rw [← Hd.out] at Hn
      have hz := Blk.frozen hi
      obtain ⟨v0, z0⟩ := Option.isSome_iff_exists.1 (ht 0 (by omega)).1
      obtain ⟨v1, z1⟩ := Option.isSome_iff_exists.1 (ht 1 (by omega)).1
      obtain ⟨v2, z2⟩ := Option.isSome_iff_exists.1 (ht 2 (by omega)).1
      obtain ⟨v3, z3⟩ := Option.isSome_iff_exists.1 (ht 3 (by omega)).1
      obtain ⟨v4, z4⟩ := Option.isSome_iff_exists.1 (ht 4 (by omega)).1
      obtain ⟨v5, z5⟩ := Option.isSome_iff_exists.1 (ht 5 (by omega)).1
      obtain ⟨v6, z6⟩ := Option.isSome_iff_exists.1 (ht 6 (by omega)).1
      rw [Nat.add_zero] at z0
      clear ht
      go_wp2_with fail
      have He2 := Lib.hid (ext_setCells (g := g) (W := w) hg0 d.cells (k * 7) w1 he)
      go_roundw
      case rel => exact ⟨k + 1, by omega, by go_num, Hn.out, He2.out⟩
      case measure => simp [intOf]; omega
    · have Hf := Lib.hid (hi.done HZ.out (by omega))
      clear hi
      go_wp2_with fail
      go_ret
      exact ⟨g, rfl, hg0, Hf.out, he⟩
set_option maxHeartbeats 1000000 in
set_option maxRecDepth 100000 in
theorem eqGivenS_same (A A' : Option Addr) (c c' : Nat) (l : List GivenD) (w : World) (hr : ReadsL w w.heap.size GivenD.cells 7 A l) (hr' : ReadsL w w.heap.size GivenD.cells 7 A' l) (hl : l.length ≤ 1048576) :
    Calls Tryd.prog 27 #[.slice A l.length c, .slice A' l.length c'] w fun e w' => e = .returned (.bool true) ∧ Ext w w' := by
  go_enter Tryd.func27, Tryd.ntmps27
  go_wp2
  go_loopw [5] (fun i wr => ∃ (k : Nat), k ≤ l.length ∧ i = .int .i64 k ∧ Ext w wr) (fun i _ => l.length - (intOf i).toNat)
  case atStart => exact ⟨0, Nat.zero_le _, rfl, Below.refl _ _⟩
  case round =>
    obtain ⟨k, hk, rfl, he⟩ := hrel
    by_cases hlt : k < l.length
    · obtain ⟨b, off, rfl, hb, hc⟩ := (hr.below he).at_ (k := k) hlt
      obtain ⟨b', off', rfl, hb', hc'⟩ := (hr'.below he).at_ (k := k) hlt
      obtain ⟨d, hd⟩ : ∃ d, d = l[k] := ⟨_, rfl⟩
      have hdl : l[k]? = some d := by rw [hd]; exact List.getElem?_eq_getElem hlt
      have c0 := hc 0 _ (flat_at _ 7 GivenD.cells_length l k 0 d hdl (by omega))
      have c1 := hc 1 _ (flat_at _ 7 GivenD.cells_length l k 1 d hdl (by omega))
      have c2 := hc 2 _ (flat_at _ 7 GivenD.cells_length l k 2 d hdl (by omega))
      have c3 := hc 3 _ (flat_at _ 7 GivenD.cells_length l k 3 d hdl (by omega))
      have c4 := hc 4 _ (flat_at _ 7 GivenD.cells_length l k 4 d hdl (by omega))
      have c5 := hc 5 _ (flat_at _ 7 GivenD.cells_length l k 5 d hdl (by omega))
      have c6 := hc 6 _ (flat_at _ 7 GivenD.cells_length l k 6 d hdl (by omega))
      have b0 := hc' 0 _ (flat_at _ 7 GivenD.cells_length l k 0 d hdl (by omega))
      have b1 := hc' 1 _ (flat_at _ 7 GivenD.cells_length l k 1 d hdl (by omega))
      have b2 := hc' 2 _ (flat_at _ 7 GivenD.cells_length l k 2 d hdl (by omega))
      have b3 := hc' 3 _ (flat_at _ 7 GivenD.cells_length l k 3 d hdl (by omega))
      have b4 := hc' 4 _ (flat_at _ 7 GivenD.cells_length l k 4 d hdl (by omega))
      have b5 := hc' 5 _ (flat_at _ 7 GivenD.cells_length l k 5 d hdl (by omega))
      have b6 := hc' 6 _ (flat_at _ 7 GivenD.cells_length l k 6 d hdl (by omega))
      rw [Nat.add_zero] at c0 b0
      clear hc hc' hd hdl
      go_wp2_with fail
      go_still_tail 8, (by kernel_rfl)
      change wpList _ _ _ _ _ wr.drew
      generalize hw : wr.drew = w2
      have he2 : Ext w w2 := by rw [← hw]; exact he.drew
      clear hw he
      go_wp2_with fail
      refine (eqGiven_same d _).mono ?_
      rintro e w1 ⟨rfl, h1⟩
      replace he2 := he2.next h1; clear h1 c0 c1 c2 c3 c4 c5 c6 b0 b1 b2 b3 b4 b5 b6
      go_wp2_with fail
      go_roundw
      case rel => exact ⟨k + 1, by omega, by go_num, he2⟩
      case measure => simp [intOf]; omega
    · go_wp2_with fail
      go_ret
      exact ⟨rfl, he⟩
end Go.Proofs.YtichegndafnjeaaDoor
