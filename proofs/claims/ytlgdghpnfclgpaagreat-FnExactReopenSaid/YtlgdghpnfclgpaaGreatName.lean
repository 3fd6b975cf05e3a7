/-
  The laws' own functions at lists of texts: walks. Written by program (gen_nest.py). No condition.
  What Disk is in memory; the laws' own functions at it: walks. Written by program (gen_nest.py). No condition.
  A store of a struct of many cells, told by a list. No condition.
  NameOk: walks. No condition.
-/
import Derived.Test.YtlgdghpnfclgpaaGreatNest
import Derived.Test.YtlgdghpnfclgpaaGreatTypes
import Derived.StillTailTactics
import Derived.Test.YtlgdghpnfclgpaaGreatProg
import Derived.Test.YtlgdghpnfclgpaaGreatArgs
namespace Go.Proofs.YtlgdghpnfclgpaaGreat
set_option linter.unusedSimpArgs false
open Go.RowKit
set_option linter.unusedVariables false
def slens (s : ByteArray) : List Nat := [s.size]
theorem string_typed {w : World} {n : Nat} {cs : List Value} (h : Typed Tryz.prog w n 9 cs) : ∃ s, cs = sone s ∧ s.size ≤ maxLen := typed_string Tryz.underlying9 h
set_option maxHeartbeats 1000000 in
set_option maxRecDepth 100000 in
theorem szStringS_any (A : Option Addr) (c : Nat) (l : List ByteArray) (left : Int) (w : World) (hr : SlF AnyB sone 1 w A l c) (hok : ∀ s ∈ l, s.size ≤ maxLen) (h0 : 0 ≤ left) (h1 : left ≤ 1048576) :
 Calls Tryz.prog 39 #[.slice A l.length c, .int .i64 left] w fun e w' => e = .returned (.int .i64 (szL (l.length :: l.flatMap slens) left)) ∧ Ext w w' := by
 have hl := hr.len
 unfold maxLen at hl
 have Hok := Lib.hid hok; clear hok
 by_cases c0 : left - (l.length : Int) < 0
 · go_enter Tryz.func39, Tryz.ntmps39
   go_wp2
   go_ret
   exact ⟨ret_int (by simp only [szL]; rw [if_pos c0]), by go_grown⟩
 · obtain ⟨fin, hfin⟩ : ∃ fin, fin = szL (l.length :: l.flatMap slens) left := ⟨_, rfl⟩
   have Hi : SzInv slens l fin 0 (left - l.length) := by
    refine ⟨by omega, by omega, ?_⟩
    rw [hfin]; simp only [szL, List.drop_zero]; rw [if_neg c0]
   rw [← hfin]; clear hfin
   go_enter Tryz.func39, Tryz.ntmps39
   go_wp2
   go_loopw [1, 5] (fun r i wr => ∃ (k : Nat) (q : Int), k ≤ l.length ∧ i = .int .i64 k ∧ r = .int .i64 q ∧ 0 ≤ q ∧ q ≤ 1048576 ∧ SzInv slens l fin k q ∧ Ext w wr) (fun _ i _ => l.length - (intOf i).toNat)
   case atStart => exact ⟨0, _, Nat.zero_le _, rfl, rfl, by omega, by omega, Hi, Below.refl _ _⟩
   case round =>
    obtain ⟨k, q, hk, rfl, rfl, q0, q1, hi, he⟩ := hrel
    by_cases hlt : k < l.length
    · obtain ⟨s1, s2⟩ := hi.step hlt
      obtain ⟨b, off, rfl, hb, hc⟩ := Reads.at_ (hr.ext he).reads (k := k) hlt
      obtain ⟨d, hd⟩ : ∃ d, d = l[k] := ⟨_, rfl⟩
      have hdl : l[k]? = some d := by rw [hd]; exact List.getElem?_eq_getElem hlt
      have hdo := Hok.out d (List.mem_of_getElem? hdl)
      unfold maxLen at hdo
      have c0 := hc 0 _ (flat_at _ 1 sone_length l k 0 d hdl (by omega))
      rw [Nat.add_zero, Nat.mul_one] at c0
      rw [← hd] at s1 s2
      clear hc hd hdl
      have e1 : szL (slens d) q = if q - (d.size : Int) < 0 then -1 else q - d.size := rfl
      rw [e1] at s1 s2
      clear e1
      by_cases hn : q - (d.size : Int) < 0
      · rw [if_pos hn] at s1
        have E1 := Lib.hid (s1 (by decide))
        clear s1 s2 Hi hi
        go_wp2_with fail
        go_ret
        exact ⟨ret_int E1.out.symm, he⟩
      · rw [if_neg hn] at s2
        have H2 := Lib.hid (s2 (by omega))
        clear s1 s2 Hi hi
        go_wp2_with fail
        go_roundw
        case rel => exact ⟨k + 1, _, by omega, by go_num, rfl, by omega, by omega, H2.out, he⟩
        case measure => simp [intOf]; omega
    · have E1 := Lib.hid (hi.done (by omega))
      clear Hi hi
      go_wp2_with fail
      go_ret
      exact ⟨ret_int E1.out, he⟩
set_option maxHeartbeats 1000000 in
set_option maxRecDepth 100000 in
theorem toStringS_any (A : Option Addr) (c : Nat) (l : List ByteArray) (w : World) (hr : SlF AnyB sone 1 w A l c) (hl : l.length ≤ 1048576) :
 Calls Tryz.prog 40 #[.slice A l.length c] w fun e w' => ∃ g, e = .returned (.slice (some ⟨g, 0, none⟩) l.length l.length) ∧ w.heap.size ≤ g ∧ Blk w' g 9 (l.flatMap sone).toArray ∧ Ext w w' := by
 obtain ⟨Z, hZ, hmk⟩ := make_any (P := Tryz.prog) (t := 22) (e := 9) (size := 1) (bytes := 16) l.length Tryz.underlying22 (by kernel_rfl) (by omega) hl
 have HZ := Lib.hid hZ; clear hZ
 have Hs := Lib.hid (Filled.start (f := sone) (size := 1) (t := 9) (l := l) w Z)
 have He := Lib.hid (Ext.new (Below.refl w.heap.size w) (.cells Z 9))
 go_enter Tryz.func40, Tryz.ntmps40
 go_wp2
 obtain ⟨g, hg⟩ : ∃ g, g = w.heap.size := ⟨_, rfl⟩
 rw [← hg]
 rw [← hg] at Hs
 have hg0 : w.heap.size ≤ g := by omega
 clear hg
 go_loopw [4] (fun i wr => ∃ (k : Nat), k ≤ l.length ∧ i = .int .i64 k ∧ Filled sone 1 9 l g Z k wr ∧ Ext w wr) (fun i _ => l.length - (intOf i).toNat)
 case atStart => exact ⟨0, Nat.zero_le _, rfl, Hs.out, He.out⟩
 case round =>
  obtain ⟨k, hk, rfl, hi, he⟩ := hrel
  by_cases hlt : k < l.length
  · obtain ⟨b, off, rfl, hb, hc⟩ := Reads.at_ (hr.ext he).reads (k := k) hlt
    obtain ⟨d, hd⟩ : ∃ d, d = l[k] := ⟨_, rfl⟩
    have hdl : l[k]? = some d := by rw [hd]; exact List.getElem?_eq_getElem hlt
    have c0 := hc 0 _ (flat_at _ 1 sone_length l k 0 d hdl (by omega))
    rw [Nat.add_zero, Nat.mul_one] at c0
    have ht := hi.there sone_length HZ.out hlt
    have Hn := Lib.hid (hi.step sone_length HZ.out hlt)
    rw [← hd, Nat.mul_one] at Hn
    clear hc hd hdl
    have hz := Blk.frozen hi
    obtain ⟨v0, z0⟩ := Option.isSome_iff_exists.1 (ht 0 (by omega)).1
    rw [Nat.add_zero, Nat.mul_one] at z0
    clear ht
    have He2 := Lib.hid (ext_setCells (g := g) (W := w) hg0 (sone d) k wr he)
    go_wp2_with fail
    go_roundw
    case rel => exact ⟨k + 1, by omega, by go_num, Hn.out, He2.out⟩
    case measure => simp [intOf]; omega
  · have Hf := Lib.hid (hi.done HZ.out (by omega))
    clear hi
    go_wp2_with fail
    go_ret
    exact ⟨g, rfl, hg0, Hf.out, he⟩
set_option maxHeartbeats 1000000 in
set_option maxRecDepth 100000 in
theorem eqStringS_slf (A A' : Option Addr) (c c' : Nat) (l : List ByteArray) (w : World) (hr : SlF AnyB sone 1 w A l c) (hr' : SlF AnyB sone 1 w A' l c') (hl : l.length ≤ 1048576) :
 Calls Tryz.prog 19 #[.slice A l.length c, .slice A' l.length c'] w fun e w' => e = .returned (.bool true) ∧ Ext w w' := by
 go_enter Tryz.func19, Tryz.ntmps19
 go_wp2
 go_loopw [5] (fun i wr => ∃ (k : Nat), k ≤ l.length ∧ i = .int .i64 k ∧ Ext w wr) (fun i _ => l.length - (intOf i).toNat)
 case atStart => exact ⟨0, Nat.zero_le _, rfl, Below.refl _ _⟩
 case round =>
  obtain ⟨k, hk, rfl, he⟩ := hrel
  by_cases hlt : k < l.length
  · obtain ⟨b, off, rfl, hb, hc⟩ := Reads.at_ (hr.ext he).reads (k := k) hlt
    obtain ⟨b', off', rfl, hb', hc'⟩ := Reads.at_ (hr'.ext he).reads (k := k) hlt
    obtain ⟨d, hd⟩ : ∃ d, d = l[k] := ⟨_, rfl⟩
    have hdl : l[k]? = some d := by rw [hd]; exact List.getElem?_eq_getElem hlt
    have c0 := hc 0 _ (flat_at _ 1 sone_length l k 0 d hdl (by omega))
    have b0 := hc' 0 _ (flat_at _ 1 sone_length l k 0 d hdl (by omega))
    rw [Nat.add_zero, Nat.mul_one] at c0 b0
    clear hc hc' hd hdl
    have z0 : (0 : Int) ≤ (k : Int) := by omega
    have z1 : (k : Int) < (l.length : Int) := by omega
    go_wp2_with fail
    go_quiet (fail)
    go_wp2_with fail
    go_roundw
    case rel => exact ⟨k + 1, by omega, by go_num, ⟨he.os, he.tape, he.output, he.size, he.block⟩⟩
    case measure => simp [intOf]; omega
  · go_wp2_with fail
    go_ret
    exact ⟨rfl, he⟩
end Go.Proofs.YtlgdghpnfclgpaaGreat
namespace Go.Proofs.YtlgdghpnfclgpaaGreat
set_option linter.unusedSimpArgs false
open Go.RowKit
set_option linter.unusedVariables false
structure DiskD where
 files : List ByteArray
def DiskD.In : Rep DiskD := fun p w cs d => ∃ (A0 : Option Addr) (c0 : Nat), cs = [.slice A0 d.files.length c0] ∧ SlF p sone 1 w A0 d.files c0
def DiskD.Ok (d : DiskD) : Prop := (∀ s ∈ d.files, s.size ≤ maxLen)
def DiskD.lens (d : DiskD) : List Nat := (d.files.length :: d.files.flatMap slens) ++ []
set_option maxRecDepth 100000 in
theorem DiskD.typed {w : World} {n : Nat} {cs : List Value} (h : Typed Tryz.prog w n 24 cs) : ∃ d : DiskD, DiskD.In AnyB w cs d ∧ d.Ok := by
 obtain ⟨hl, m, hf⟩ := typed_struct Tryz.underlying24 h
 have hC : Tryz.prog.cellsOf 24 = 1 := by kernel_rfl
 have hs0 : Tryz.prog.cellsOf 22 = 1 := by kernel_rfl
 rw [hC] at hl
 match cs, hl with
 | [x0], _ =>
   have f0 := hf _ (List.mem_iff_getElem?.2 ⟨0, rfl⟩)
   simp only [hs0, List.drop_zero, List.take_succ_cons, List.take_zero] at f0
   obtain ⟨A0, c0, a0, e0, s0, w0⟩ := typed_sliceF sone (fun s => s.size ≤ maxLen) 1 Tryz.underlying22 (by kernel_rfl) (by decide) sone_length (fun m es h => string_typed h) f0
   obtain rfl : x0 = _ := by simpa using e0
   exact ⟨⟨a0⟩, ⟨_, _, rfl, s0⟩, w0⟩
set_option maxHeartbeats 2000000 in
set_option maxRecDepth 100000 in
theorem szDisk_any (d : DiskD) (A0 : Option Addr) (c0 : Nat) (left : Int) (w : World) (hok : d.Ok) (s0 : SlF AnyB sone 1 w A0 d.files c0) (h0 : 0 ≤ left) (h1 : left ≤ 1048576) :
 Calls Tryz.prog 9 #[.agg #[.slice A0 d.files.length c0], .int .i64 left] w fun e w' => e = .returned (.int .i64 (szL d.lens left)) ∧ Ext w w' := by
 have k_files := hok
 have S0 := Lib.hid s0; clear s0
 have K_files := Lib.hid k_files; clear k_files
 have K0 := Lib.hid (Blk.new w 24 #[.slice A0 d.files.length c0])
 have He := Lib.hid (Ext.new (Below.refl w.heap.size w) (.cells #[.slice A0 d.files.length c0] 24))
 obtain ⟨fin, hfin⟩ : ∃ fin, fin = szL d.lens left := ⟨_, rfl⟩
 have F : Hid (szL ((d.files.length :: d.files.flatMap slens) ++ []) left = fin) := Lib.hid hfin.symm
 rw [← hfin]
 clear hfin
 go_enter Tryz.func9, Tryz.ntmps9
 go_wp2_with fail
 refine (szStringS_any A0 c0 d.files left _ (S0.out.ext He.out) K_files.out h0 h1).mono ?_
 rintro e w1 ⟨rfl, hx⟩
 have K1 := K0.out.ext hx; have he := He.out.next hx; clear hx K0 He
 obtain ⟨r0, m0⟩ := K1.rules
 have hp := szL_pos (d.files.length :: d.files.flatMap slens) left h0
 have hqq := szL_le (d.files.length :: d.files.flatMap slens) left
 by_cases n0 : szL (d.files.length :: d.files.flatMap slens) left < 0
 · have E := Lib.hid (show (-1 : Int) = fin by rw [← F.out, szL_append _ _ _ h0, if_pos n0])
   have ev : szL (d.files.length :: d.files.flatMap slens) left = -1 := by omega
   clear hp hqq F
   go_wp2_with fail
   go_ret
   exact ⟨ret_int E.out, he⟩
 have F2 : Hid (szL ([]) (szL (d.files.length :: d.files.flatMap slens) left) = fin) := Lib.hid (by rw [← F.out, szL_append _ _ _ h0, if_neg n0])
 clear F
 have u0 : 0 ≤ szL (d.files.length :: d.files.flatMap slens) left := by omega
 have v0 : szL (d.files.length :: d.files.flatMap slens) left ≤ 1048576 := by omega
 clear hp hqq
 generalize szL (d.files.length :: d.files.flatMap slens) left = q0 at *
 have F := F2
 clear F2
 go_wp2_with fail
 go_ret
 exact ⟨ret_int (show q0 = fin from F.out), he⟩
set_option maxHeartbeats 4000000 in
set_option maxRecDepth 100000 in
theorem toDisk_any (d : DiskD) (A0 : Option Addr) (c0 : Nat) (w : World) (s0 : SlF AnyB sone 1 w A0 d.files c0) (hf : ∀ n ∈ d.lens, n ≤ 1048576) :
 Calls Tryz.prog 11 #[.agg #[.slice A0 d.files.length c0]] w fun e w' => ∃ cs, e = .returned (.agg cs.toArray) ∧ DiskD.In (FromB w.heap.size) w' cs d ∧ Ext w w' := by
 have l_files : d.files.length ≤ 1048576 := hf _ (by simp [DiskD.lens])
 have S0 := Lib.hid s0; clear s0
 clear hf
 go_enter Tryz.func11, Tryz.ntmps11
 go_wp2_with fail
 have HE : Ext w (((w.alloc (.cells #[.slice A0 d.files.length c0] 24)).alloc (.cells #[.slice none 0 0] 27)).alloc (.cells #[.slice none 0 0] 27)) := Ext.new (Ext.new (Ext.new (Below.refl _ w) _) _) _
 refine (toStringS_any A0 c0 d.files _ (S0.out.ext HE) l_files).mono ?_
 rintro e x0 ⟨g0, rfl, hg, bg, hx⟩
 have B0 := (((Blk.new _ _ _).alloc _).alloc _).ext hx
 have B1 := ((Blk.new _ _ _).alloc _).ext hx
 have B2 := (Blk.new _ _ _).ext hx
 have he := HE.next hx
 have hgs : w.heap.size + 1 + 1 + 1 ≤ w.heap.size + 1 + 1 + 1 := Nat.le_refl _
 simp only [World.size_alloc] at B1 B2 hg
 have T0 : SlF (FromB (w.heap.size + 1 + 1 + 1)) sone 1 x0 (some ⟨g0, 0, none⟩) d.files d.files.length := SlF.new sone_length bg l_files (show _ ≤ _ by omega)
 clear hx HE hgs
 obtain ⟨r0, f0⟩ := B0.rules
 obtain ⟨r2, f2⟩ := B2.rules
 go_upto_region 3 with fail
 have he_ := ext_setCells (W := w) (g := (w.heap.size + 1 + 1)) (by omega) [.slice (some ⟨g0, 0, none⟩) d.files.length d.files.length] 0 x0 he
 have C2 := B2.put 0 [.slice (some ⟨g0, 0, none⟩) d.files.length d.files.length] #[.slice (some ⟨g0, 0, none⟩) d.files.length d.files.length] (by simp) rfl
 have C1 := B1.farCells (g' := (w.heap.size + 1 + 1)) (by omega) [.slice (some ⟨g0, 0, none⟩) d.files.length d.files.length] 0
 have C0 := B0.farCells (g' := (w.heap.size + 1 + 1)) (by omega) [.slice (some ⟨g0, 0, none⟩) d.files.length d.files.length] 0
 replace T0 := T0.keep (Keep.setCells (g := (w.heap.size + 1 + 1)) (by unfold FromB; omega) [.slice (some ⟨g0, 0, none⟩) d.files.length d.files.length] 0 x0)
 clear r0 f0 r2 f2 B0 B1 B2 he
 change Code.wp _ _ _ _ (x0.setCells (w.heap.size + 1 + 1) 0 [.slice (some ⟨g0, 0, none⟩) d.files.length d.files.length])
 generalize x0.setCells (w.heap.size + 1 + 1) 0 [.slice (some ⟨g0, 0, none⟩) d.files.length d.files.length] = y0 at *
 have B0 := C0; have B1 := C1; have B2 := C2; have he := he_
 clear C0 C1 C2 he_
 obtain ⟨r0, f0⟩ := B0.rules
 obtain ⟨r2, f2⟩ := B2.rules
 obtain ⟨r1, f1⟩ := B1.rules
 go_wp2_with fail
 have he_ := ext_setCells (W := w) (g := w.heap.size + 1) (by omega) [.slice (some ⟨g0, 0, none⟩) d.files.length d.files.length] 0 y0 he
 have E1 := B1.put 0 [.slice (some ⟨g0, 0, none⟩) d.files.length d.files.length] #[.slice (some ⟨g0, 0, none⟩) d.files.length d.files.length] (by simp) rfl
 replace T0 := T0.keep (Keep.setCells (g := w.heap.size + 1) (by unfold FromB; omega) [.slice (some ⟨g0, 0, none⟩) d.files.length d.files.length] 0 y0)
 change bodyPost _ _ _ _ _ (y0.setCells (w.heap.size + 1) 0 [.slice (some ⟨g0, 0, none⟩) d.files.length d.files.length])
 clear r0 f0 r1 f1 r2 f2 B0 B1 B2 he
 generalize y0.setCells (w.heap.size + 1) 0 [.slice (some ⟨g0, 0, none⟩) d.files.length d.files.length] = z at *
 exact ret_row rfl rfl E1 Tryz.underlying27 rfl (by kernel_rfl) rfl ⟨[.slice (some ⟨g0, 0, none⟩) d.files.length d.files.length], rfl, ⟨_, _, rfl, T0.mono (fun b hb => by unfold FromB at *; omega)⟩, he_⟩
set_option maxHeartbeats 2000000 in
set_option maxRecDepth 100000 in
theorem eqDisk_same (d : DiskD) (A0 : Option Addr) (c0 : Nat) (B0 : Option Addr) (e0 : Nat) (w : World) (s0 : SlF AnyB sone 1 w A0 d.files c0) (t0 : SlF AnyB sone 1 w B0 d.files e0) (hf : ∀ n ∈ d.lens, n ≤ 1048576) :
 Calls Tryz.prog 13 #[.agg #[.slice A0 d.files.length c0], .agg #[.slice B0 d.files.length e0]] w fun e w' => e = .returned (.bool true) ∧ Ext w w' := by
 have l_files : d.files.length ≤ 1048576 := hf _ (by simp [DiskD.lens])
 have S0 := Lib.hid s0; have T0 := Lib.hid t0; clear s0 t0
 clear hf
 obtain ⟨K0, K1, he⟩ := two_new w #[.slice A0 d.files.length c0] #[.slice B0 d.files.length e0] 27 27
 go_enter Tryz.func13, Tryz.ntmps13
 obtain ⟨r0, f0⟩ := K0.rules
 obtain ⟨r1, f1⟩ := K1.rules
 go_wp2_with fail
 obtain ⟨g, hg⟩ : ∃ g, g = w.heap.size := ⟨_, rfl⟩
 rw [← hg] at K0 K1
 rw [← hg]
 clear hg r0 f0 r1 f1
 refine (eqStringS_slf A0 B0 c0 e0 d.files _ (S0.out.ext he) (T0.out.ext he) l_files).mono ?_
 rintro e x0 ⟨rfl, hx⟩
 replace K0 := K0.ext hx; replace K1 := K1.ext hx; replace he := he.next hx; clear hx
 obtain ⟨r0, f0⟩ := K0.rules
 obtain ⟨r1, f1⟩ := K1.rules
 go_wp2_with fail
 clear r0 f0 r1 f1
 go_ret
 exact ⟨rfl, he⟩
end Go.Proofs.YtlgdghpnfclgpaaGreat
namespace Go.Proofs.YtlgdghpnfclgpaaGreat
set_option linter.unusedSimpArgs false
open Go.RowKit
set_option linter.unusedVariables false
theorem wpList_store_list {P : Program} {ops : Array Oper} {rest : List Oper} {op : Oper} {a : Act} {w : World} {Q : Exit → Act → World → Prop} (hgd : op.guard = none) (ty : TypeId) (x y : Operand) (ho : op.op = .store ty x y) (hd : op.dst = none)
 (b o : Nat) (cells : List Value) (hx : a.eval x = .pointer (some ⟨b, o, none⟩)) (hy : a.eval y = .agg cells.toArray)
 (ht : w.there b o cells.length) (hi : (P.info? ty).map (·.size) = some cells.length) (h1 : cells.all (·.oneCell') = true)
 (h : wpList P ops Q rest a (w.setCells b o cells)) : wpList P ops Q (op :: rest) a w :=
 wpList_store_mid hgd ty x y ho b o cells.toArray hx hy (by simpa using ht) (by simpa using hi) (all_oneCell_toArray (List.all_eq_true.1 h1)) (by rw [hd]; exact h)
theorem wp_store_lst {P : Program} {op : Oper} {a : Act} {w : World} {K : Act → World → Prop} {Q : Exit → Act → World → Prop} (ty : TypeId) (x y : Operand) (ho : op.op = .store ty x y) (hd : op.dst = none)
 (b o : Nat) (cells : List Value) (hx : a.eval x = .pointer (some ⟨b, o, none⟩)) (hy : a.eval y = .agg cells.toArray)
 (ht : w.there b o cells.length) (hi : (P.info? ty).map (·.size) = some cells.length) (h1 : cells.all (·.oneCell') = true)
 (h : K a (w.setCells b o cells)) : op.wp P a w K Q := wp_store_mid ty x y ho b o cells.toArray hx hy (by simpa using ht) (by simpa using hi) (all_oneCell_toArray (List.all_eq_true.1 h1)) (by rw [hd]; exact h)
theorem wpList_load_want {P : Program} {ops : Array Oper} {rest : List Oper} {op : Oper} {a : Act} {w : World} {Q : Exit → Act → World → Prop} (hw : Region.wanted op (yielded ops a.tmps) = true) (ty : TypeId) (x : Operand) (ho : op.op = .load ty x)
 (b o : Nat) (hx : a.eval x = .pointer (some ⟨b, o, none⟩)) (cs : List Value) (d : TypeDesc) (hc : w.rangeAt b o cs)
 (hu : P.underlying ty = some d) (hd : d.isRow = true) (hi : (P.info? ty).map (·.size) = some cs.length)
 (h : wpList P ops Q rest (a.put op.dst (.agg cs.toArray)) w) : wpList P ops Q (op :: rest) a w :=
 wpList_step fun K hK => by rw [if_pos hw]; exact wp_load_mid ty x ho b o hx cs d hc hu hd hi (hK _ _ h)
end Go.Proofs.YtlgdghpnfclgpaaGreat
namespace Go.Proofs.YtlgdghpnfclgpaaGreat
set_option linter.unusedSimpArgs false
open Go.RowKit
set_option linter.unusedVariables false
def nameByte (c : UInt8) : Bool := decide (97 ≤ (c.toNat : Int) ∧ (c.toNat : Int) ≤ 122 ∨ 48 ≤ (c.toNat : Int) ∧ (c.toNat : Int) ≤ 57 ∨ (c.toNat : Int) = 45)
def nameOk (s : ByteArray) : Bool := inR s.size 1 20 && s.data.toList.all nameByte
def AllInv (p : UInt8 → Bool) (s : ByteArray) (fin : Bool) (k : Nat) : Prop := (s.data.toList.drop k).all p = fin
theorem AllInv.done {p : UInt8 → Bool} {s : ByteArray} {fin : Bool} {k : Nat} (h : AllInv p s fin k) (hk : s.size ≤ k) : fin = true := by
 unfold AllInv at h
 rw [List.drop_eq_nil_of_le (by simpa using hk)] at h
 simpa using h.symm
theorem AllInv.step {p : UInt8 → Bool} {s : ByteArray} {fin : Bool} {k : Nat} (h : AllInv p s fin k) (hk : k < s.size) : (p s[k] = false → fin = false) ∧ (p s[k] = true → AllInv p s fin (k + 1)) := by
 unfold AllInv at h
 rw [List.drop_eq_getElem_cons (by simpa using hk)] at h
 have e : s.data.toList[k]'(by simpa using hk) = s[k] := rfl
 rw [e] at h
 simp only [List.all_cons] at h
 exact ⟨fun e => by rw [e] at h; simpa using h.symm, fun e => by rw [e] at h; simpa [AllInv] using h⟩
theorem ret_bool {a b : Bool} (h : a = b) : Ending.returned (.bool a) = .returned (.bool b) := by rw [h]
theorem Ext.drewN {W w : World} (h : Ext W w) (n : Nat) : Ext W (w.drewN n) := ⟨h.os, h.tape, h.output, h.size, h.block⟩
set_option maxHeartbeats 1000000 in
theorem specNameOk_any (s : ByteArray) (w : World) (hs : s.size ≤ maxLen) :
 Calls Tryz.prog 185 #[.string s] w fun e w' => e = .returned (.bool (nameOk s)) ∧ w = w' := by
 unfold maxLen at hs
 cases hin : inR s.size 1 20
 · have Hp := Lib.hid (show nameOk s = false by simp [nameOk, hin])
   go_enter Tryz.func185, Tryz.ntmps185
   go_wp2_with (go_at_call 181; refine (l01In_any _ _ _ _).mono ?_; rintro e w' ⟨rfl, rfl⟩)
   go_ret
   exact ⟨ret_bool Hp.out.symm, rfl⟩
 · obtain ⟨fin, hfin⟩ : ∃ fin, fin = nameOk s := ⟨_, rfl⟩
   have Hi : AllInv nameByte s fin 0 := by rw [hfin]; simp [AllInv, nameOk, hin]
   rw [← hfin]; clear hfin
   go_enter Tryz.func185, Tryz.ntmps185
   go_wp2_with (go_at_call 181; refine (l01In_any _ _ _ _).mono ?_; rintro e w' ⟨rfl, rfl⟩)
   go_loop [3] (fun i => ∃ k : Nat, k ≤ s.size ∧ i = .int .i64 k ∧ AllInv nameByte s fin k) (fun i => s.size - (intOf i).toNat)
   case atStart => exact ⟨0, Nat.zero_le _, rfl, Hi⟩
   case round =>
    obtain ⟨k, hk, rfl, hi⟩ := hrel
    clear Hi
    by_cases hlt : k < s.size
    · obtain ⟨s1, s2⟩ := hi.step hlt
      clear hi
      have S1 := Lib.hid s1; have S2 := Lib.hid s2; clear s1 s2
      have h7 : (s[k].toNat : Int) < 45 ∨ (45 ≤ (s[k].toNat : Int) ∧ (s[k].toNat : Int) ≤ 45) ∨ (46 ≤ (s[k].toNat : Int) ∧ (s[k].toNat : Int) ≤ 47) ∨ (48 ≤ (s[k].toNat : Int) ∧ (s[k].toNat : Int) ≤ 57) ∨ (58 ≤ (s[k].toNat : Int) ∧ (s[k].toNat : Int) ≤ 96) ∨ (97 ≤ (s[k].toNat : Int) ∧ (s[k].toNat : Int) ≤ 122) ∨ 122 < (s[k].toNat : Int) := by omega
      rcases h7 with h | ⟨h, h'⟩ | ⟨h, h'⟩ | ⟨h, h'⟩ | ⟨h, h'⟩ | ⟨h, h'⟩ | h
      case inr.inl =>
       have E := Lib.hid (S2.out (by simp only [nameByte, decide_eq_true_eq]; omega))
       have hd : ((s[k].toNat : Int) == 45) = true := by rw [beq_iff_eq]; omega
       go_wp2_with fail
       go_round
       case rel => exact ⟨k + 1, by omega, by go_num, E.out⟩
       case measure => simp [intOf]; omega
      case inr.inr.inr.inl | inr.inr.inr.inr.inr.inl =>
       have E := Lib.hid (S2.out (by simp only [nameByte, decide_eq_true_eq]; omega))
       go_wp2_with fail
       go_round
       case rel => exact ⟨k + 1, by omega, by go_num, E.out⟩
       case measure => simp [intOf]; omega
      case inr.inr.inr.inr.inr.inr =>
       have E := Lib.hid (S1.out (by simp only [nameByte, decide_eq_false_iff_not]; omega))
       have hd : ((s[k].toNat : Int) == 45) = false := by rw [beq_eq_false_iff_ne]; omega
       have d1 : decide ((s[k].toNat : Int) ≤ 122) = false := by rw [decide_eq_false_iff_not]; omega
       have d2 : decide ((s[k].toNat : Int) ≤ 57) = false := by rw [decide_eq_false_iff_not]; omega
       go_wp2_with fail
       go_ret
       exact ⟨ret_bool E.out.symm, rfl⟩
      case inr.inr.inr.inr.inl =>
       have E := Lib.hid (S1.out (by simp only [nameByte, decide_eq_false_iff_not]; omega))
       have hd : ((s[k].toNat : Int) == 45) = false := by rw [beq_eq_false_iff_ne]; omega
       have d2 : decide ((s[k].toNat : Int) ≤ 57) = false := by rw [decide_eq_false_iff_not]; omega
       go_wp2_with fail
       go_ret
       exact ⟨ret_bool E.out.symm, rfl⟩
      all_goals
       have E := Lib.hid (S1.out (by simp only [nameByte, decide_eq_false_iff_not]; omega))
       have hd : ((s[k].toNat : Int) == 45) = false := by rw [beq_eq_false_iff_ne]; omega
       go_wp2_with fail
       go_ret
       exact ⟨ret_bool E.out.symm, rfl⟩
    · have E := Lib.hid (hi.done (by omega))
      clear hi
      go_wp2_with fail
      go_ret
      exact ⟨ret_bool E.out.symm, rfl⟩
set_option maxHeartbeats 1000000 in
theorem NameOk_any (s : ByteArray) (w : World) (hs : s.size ≤ maxLen) :
 Calls Tryz.prog 194 #[.string s] w fun e w' => e = .returned (.bool (nameOk s)) ∧ w = w' := by
 unfold maxLen at hs
 obtain ⟨fin, hfin⟩ : ∃ fin, fin = s.data.toList.all nameByte := ⟨_, rfl⟩
 have Hi : AllInv nameByte s fin 0 := by rw [hfin]; simp [AllInv]
 have Hf : Hid (nameOk s = (inR s.size 1 20 && fin)) := by rw [hfin]; exact Lib.hid rfl
 clear hfin
 go_enter Tryz.func194, Tryz.ntmps194
 go_wp2_with fail
 go_loop [3] (fun i => ∃ k : Nat, k ≤ s.size ∧ i = .int .i64 k ∧ AllInv nameByte s fin k) (fun i => s.size - (intOf i).toNat)
 case atStart => exact ⟨0, Nat.zero_le _, rfl, Hi⟩
 case round =>
  obtain ⟨k, hk, rfl, hi⟩ := hrel
  clear Hi
  by_cases hlt : k < s.size
  · obtain ⟨s1, s2⟩ := hi.step hlt
    clear hi
    have S1 := Lib.hid s1; have S2 := Lib.hid s2; clear s1 s2
    have h7 : (s[k].toNat : Int) < 45 ∨ (45 ≤ (s[k].toNat : Int) ∧ (s[k].toNat : Int) ≤ 45) ∨ (46 ≤ (s[k].toNat : Int) ∧ (s[k].toNat : Int) ≤ 47) ∨ (48 ≤ (s[k].toNat : Int) ∧ (s[k].toNat : Int) ≤ 57) ∨ (58 ≤ (s[k].toNat : Int) ∧ (s[k].toNat : Int) ≤ 96) ∨ (97 ≤ (s[k].toNat : Int) ∧ (s[k].toNat : Int) ≤ 122) ∨ 122 < (s[k].toNat : Int) := by omega
    rcases h7 with h | ⟨h, h'⟩ | ⟨h, h'⟩ | ⟨h, h'⟩ | ⟨h, h'⟩ | ⟨h, h'⟩ | h
    case inr.inl =>
     have E := Lib.hid (S2.out (by simp only [nameByte, decide_eq_true_eq]; omega))
     have hd : ((s[k].toNat : Int) == 45) = true := by rw [beq_iff_eq]; omega
     go_wp2_with fail
     go_round
     case rel => exact ⟨k + 1, by omega, by go_num, E.out⟩
     case measure => simp [intOf]; omega
    case inr.inr.inr.inl | inr.inr.inr.inr.inr.inl =>
     have E := Lib.hid (S2.out (by simp only [nameByte, decide_eq_true_eq]; omega))
     go_wp2_with fail
     go_round
     case rel => exact ⟨k + 1, by omega, by go_num, E.out⟩
     case measure => simp [intOf]; omega
    case inr.inr.inr.inr.inr.inr =>
     have E := Lib.hid (S1.out (by simp only [nameByte, decide_eq_false_iff_not]; omega))
     have hd : ((s[k].toNat : Int) == 45) = false := by rw [beq_eq_false_iff_ne]; omega
     have d1 : decide ((s[k].toNat : Int) ≤ 122) = false := by rw [decide_eq_false_iff_not]; omega
     have d2 : decide ((s[k].toNat : Int) ≤ 57) = false := by rw [decide_eq_false_iff_not]; omega
     go_wp2_with fail
     go_ret
     exact ⟨ret_bool (by rw [Hf.out, E.out, Bool.and_false]), rfl⟩
    case inr.inr.inr.inr.inl =>
     have E := Lib.hid (S1.out (by simp only [nameByte, decide_eq_false_iff_not]; omega))
     have hd : ((s[k].toNat : Int) == 45) = false := by rw [beq_eq_false_iff_ne]; omega
     have d2 : decide ((s[k].toNat : Int) ≤ 57) = false := by rw [decide_eq_false_iff_not]; omega
     go_wp2_with fail
     go_ret
     exact ⟨ret_bool (by rw [Hf.out, E.out, Bool.and_false]), rfl⟩
    all_goals
     have E := Lib.hid (S1.out (by simp only [nameByte, decide_eq_false_iff_not]; omega))
     have hd : ((s[k].toNat : Int) == 45) = false := by rw [beq_eq_false_iff_ne]; omega
     go_wp2_with fail
     go_ret
     exact ⟨ret_bool (by rw [Hf.out, E.out, Bool.and_false]), rfl⟩
  · have E := Lib.hid (hi.done (by omega))
    clear hi
    go_wp2_with fail
    refine (inRange_any _ _ _ _).mono ?_
    rintro e w1 ⟨rfl, rfl⟩
    go_wp2_with fail
    go_ret
    exact ⟨ret_bool (by rw [Hf.out, E.out, Bool.and_true]), rfl⟩
end Go.Proofs.YtlgdghpnfclgpaaGreat
