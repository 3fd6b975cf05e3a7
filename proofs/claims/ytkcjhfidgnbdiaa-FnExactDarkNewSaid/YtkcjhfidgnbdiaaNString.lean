/-
  The laws' own functions at lists of texts: walks. Written by program (gen_nest.py). No condition.
-/
import Derived.Test.YtkcjhfidgnbdiaaNest
import Derived.Test.YtkcjhfidgnbdiaaTypes
import Derived.StillTailTactics
namespace Go.Proofs.Ytkcjhfidgnbdiaa
set_option linter.unusedSimpArgs false
open Go.RowKit
set_option linter.unusedVariables false

def slens (s : ByteArray) : List Nat := [s.size]
theorem string_typed {w : World} {n : Nat} {cs : List Value} (h : Typed Try.prog w n 9 cs) : ∃ s, cs = sone s ∧ s.size ≤ maxLen := typed_string Try.underlying9 h
set_option maxHeartbeats 1000000 in
set_option maxRecDepth 100000 in
theorem szStringS_any (A : Option Addr) (c : Nat) (l : List ByteArray) (left : Int) (w : World) (hr : SlF AnyB sone 1 w A l c) (hok : ∀ s ∈ l, s.size ≤ maxLen) (h0 : 0 ≤ left) (h1 : left ≤ 1048576) :
    Calls Try.prog 16 #[.slice A l.length c, .int .i64 left] w fun e w' => e = .returned (.int .i64 (szL (l.length :: l.flatMap slens) left)) ∧ Ext w w' := by
  have hl := hr.len
  unfold maxLen at hl
  have Hok := Lib.hid hok; clear hok
  by_cases c0 : left - (l.length : Int) < 0
  · go_enter Try.func16, Try.ntmps16
    go_wp2
    go_ret
    exact ⟨ret_int (by simp only [szL]; rw [if_pos c0]), by go_grown⟩
  · obtain ⟨fin, hfin⟩ : ∃ fin, fin = szL (l.length :: l.flatMap slens) left := ⟨_, rfl⟩
    have Hi : SzInv slens l fin 0 (left - l.length) := by
      refine ⟨by omega, by omega, ?_⟩
      rw [hfin]; simp only [szL, List.drop_zero]; rw [if_neg c0]
    rw [← hfin]; clear hfin
    go_enter Try.func16, Try.ntmps16
    go_wp2
    go_loopw [1, 5] (fun r i wr => ∃ (k : Nat) (q : Int), k ≤ l.length ∧ i = .int .i64 k ∧ r = .int .i64 q ∧ 0 ≤ q ∧ q ≤ 1048576 ∧ SzInv slens l fin k q ∧ Ext w wr) (fun _ i _ => l.length - (intOf i).toNat)
    case atStart => exact ⟨0, _, Nat.zero_le _, rfl, rfl, by omega, by omega, Hi, Below.refl _ _⟩
    case round =>
      obtain ⟨k, q, hk, rfl, rfl, q0, q1, hi, he⟩ := hrel
      by_cases hlt : k < l.length
      · obtain ⟨s1, s2⟩ := hi.step hlt
        obtain ⟨b, off, rfl, hb, hc⟩ := Reads.at_ (hr.ext he).reads (k := k) hlt
        obtain ⟨d, hd⟩ : ∃ d, d = l[k] := ⟨_, rfl⟩
        have hdl : l[k]? = some d := by rw [hd]; exact List.getElem?_eq_getElem hlt
        have hdo := Hok.out d (List.mem_of_getElem? hdl)
        unfold maxLen at hdo
        have c0 := hc 0 _ (flat_at _ 1 sone_length l k 0 d hdl (by omega))
        rw [Nat.add_zero, Nat.mul_one] at c0
        rw [← hd] at s1 s2
        clear hc hd hdl
        have e1 : szL (slens d) q = if q - (d.size : Int) < 0 then -1 else q - d.size := rfl
        rw [e1] at s1 s2
        clear e1
        by_cases hn : q - (d.size : Int) < 0
        · rw [if_pos hn] at s1
          have E1 := Lib.hid (s1 (by decide))
          clear s1 s2 Hi hi
          go_wp2_with fail
          go_ret
          exact ⟨ret_int E1.out.symm, he⟩
        · rw [if_neg hn] at s2
          have H2 := Lib.hid (s2 (by omega))
          clear s1 s2 Hi hi
          go_wp2_with fail
          go_roundw
          case rel => exact ⟨k + 1, _, by omega, by go_num, rfl, by omega, by omega, H2.out, he⟩
          case measure => simp [intOf]; omega
      · have E1 := Lib.hid (hi.done (by omega))
        clear Hi hi
        go_wp2_with fail
        go_ret
        exact ⟨ret_int E1.out, he⟩
set_option maxHeartbeats 1000000 in
set_option maxRecDepth 100000 in
theorem toStringS_any (A : Option Addr) (c : Nat) (l : List ByteArray) (w : World) (hr : SlF AnyB sone 1 w A l c) (hl : l.length ≤ 1048576) :
    Calls Try.prog 18 #[.slice A l.length c] w fun e w' => ∃ g, e = .returned (.slice (some ⟨g, 0, none⟩) l.length l.length) ∧ w.heap.size ≤ g ∧ Blk w' g 9 (l.flatMap sone).toArray ∧ Ext w w' := by
  obtain ⟨Z, hZ, hmk⟩ := make_any (P := Try.prog) (t := 24) (e := 9) (size := 1) (bytes := 16) l.length Try.underlying24 (by kernel_rfl) (by omega) hl
  have HZ := Lib.hid hZ; clear hZ
  have Hs := Lib.hid (Filled.start (f := sone) (size := 1) (t := 9) (l := l) w Z)
  have He := Lib.hid (Ext.new (Below.refl w.heap.size w) (.cells Z 9))
  go_enter Try.func18, Try.ntmps18
  go_wp2
  obtain ⟨g, hg⟩ : ∃ g, g = w.heap.size := ⟨_, rfl⟩
  rw [← hg]
  rw [← hg] at Hs
  have hg0 : w.heap.size ≤ g := by omega
  clear hg
  go_loopw [4] (fun i wr => ∃ (k : Nat), k ≤ l.length ∧ i = .int .i64 k ∧ Filled sone 1 9 l g Z k wr ∧ Ext w wr) (fun i _ => l.length - (intOf i).toNat)
  case atStart => exact ⟨0, Nat.zero_le _, rfl, Hs.out, He.out⟩
  case round =>
    obtain ⟨k, hk, rfl, hi, he⟩ := hrel
    by_cases hlt : k < l.length
    · obtain ⟨b, off, rfl, hb, hc⟩ := Reads.at_ (hr.ext he).reads (k := k) hlt
      obtain ⟨d, hd⟩ : ∃ d, d = l[k] := ⟨_, rfl⟩
      have hdl : l[k]? = some d := by rw [hd]; exact List.getElem?_eq_getElem hlt
      have c0 := hc 0 _ (flat_at _ 1 sone_length l k 0 d hdl (by omega))
      rw [Nat.add_zero, Nat.mul_one] at c0
      have ht := hi.there sone_length HZ.out hlt
      have Hn := Lib.hid (hi.step sone_length HZ.out hlt)
      rw [← hd, Nat.mul_one] at Hn
      clear hc hd hdl
      have hz := Blk.frozen hi
      obtain ⟨v0, z0⟩ := Option.isSome_iff_exists.1 (ht 0 (by omega)).1
      rw [Nat.add_zero, Nat.mul_one] at z0
      clear ht
      have He2 := Lib.hid (ext_setCells (g := g) (W := w) hg0 (sone d) k wr he)
      go_wp2_with fail
      go_roundw
      case rel => exact ⟨k + 1, by omega, by go_num, Hn.out, He2.out⟩
      case measure => simp [intOf]; omega
    · have Hf := Lib.hid (hi.done HZ.out (by omega))
      clear hi
      go_wp2_with fail
      go_ret
      exact ⟨g, rfl, hg0, Hf.out, he⟩
set_option maxHeartbeats 1000000 in
set_option maxRecDepth 100000 in
theorem eqStringS_slf (A A' : Option Addr) (c c' : Nat) (l : List ByteArray) (w : World) (hr : SlF AnyB sone 1 w A l c) (hr' : SlF AnyB sone 1 w A' l c') (hl : l.length ≤ 1048576) :
    Calls Try.prog 21 #[.slice A l.length c, .slice A' l.length c'] w fun e w' => e = .returned (.bool true) ∧ Ext w w' := by
  go_enter Try.func21, Try.ntmps21
  go_wp2
  go_loopw [5] (fun i wr => ∃ (k : Nat), k ≤ l.length ∧ i = .int .i64 k ∧ Ext w wr) (fun i _ => l.length - (intOf i).toNat)
  case atStart => exact ⟨0, Nat.zero_le _, rfl, Below.refl _ _⟩
  case round =>
    obtain ⟨k, hk, rfl, he⟩ := hrel
    by_cases hlt : k < l.length
    · obtain ⟨b, off, rfl, hb, hc⟩ := Reads.at_ (hr.ext he).reads (k := k) hlt
      obtain ⟨b', off', rfl, hb', hc'⟩ := Reads.at_ (hr'.ext he).reads (k := k) hlt
      obtain ⟨d, hd⟩ : ∃ d, d = l[k] := ⟨_, rfl⟩
      have hdl : l[k]? = some d := by rw [hd]; exact List.getElem?_eq_getElem hlt
      have c0 := hc 0 _ (flat_at _ 1 sone_length l k 0 d hdl (by omega))
      have b0 := hc' 0 _ (flat_at _ 1 sone_length l k 0 d hdl (by omega))
      rw [Nat.add_zero, Nat.mul_one] at c0 b0
      clear hc hc' hd hdl
      have z0 : (0 : Int) ≤ (k : Int) := by omega
      have z1 : (k : Int) < (l.length : Int) := by omega
      go_wp2_with fail
      go_quiet (fail)
      go_wp2_with fail
      go_roundw
      case rel => exact ⟨k + 1, by omega, by go_num, ⟨he.os, he.tape, he.output, he.size, he.block⟩⟩
      case measure => simp [intOf]; omega
    · go_wp2_with fail
      go_ret
      exact ⟨rfl, he⟩
end Go.Proofs.Ytkcjhfidgnbdiaa
