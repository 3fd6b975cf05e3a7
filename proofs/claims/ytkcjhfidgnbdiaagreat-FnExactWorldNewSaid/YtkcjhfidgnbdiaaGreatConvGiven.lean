/-
  What Disk is in memory; the laws' own functions at it: walks. Written by program (gen_nest.py). No condition.
  What Client is in memory; the laws' own functions at it: walks. Written by program (gen_nest.py). No condition.
  The laws' own copying and comparing functions at Given: walks. Written by program (gen_conv.py). No condition.
-/
import Derived.Test.YtkcjhfidgnbdiaaGreatNest
import Derived.Test.YtkcjhfidgnbdiaaGreatNamesOk
import Derived.StillTailTactics
import Derived.Test.YtkcjhfidgnbdiaaGreatConvHead
import Derived.Test.YtkcjhfidgnbdiaaGreatAppSrc
import Derived.Test.YtkcjhfidgnbdiaaGreatConvEntry
namespace Go.Proofs.YtkcjhfidgnbdiaaGreat
set_option linter.unusedSimpArgs false
open Go.RowKit
set_option linter.unusedVariables false

structure DiskD where
  files : List ByteArray
def DiskD.In : Rep DiskD := fun p w cs d => ∃ (A0 : Option Addr) (c0 : Nat), cs = [.slice A0 d.files.length c0] ∧ SlF p sone 1 w A0 d.files c0
theorem DiskD.steady : Steady DiskD.In := ⟨fun h k => by obtain ⟨A0, c0, rfl, s0⟩ := h; exact ⟨_, _, rfl, s0.keep k⟩, fun h k => by obtain ⟨A0, c0, rfl, s0⟩ := h; exact ⟨_, _, rfl, s0.mono k⟩⟩
theorem DiskD.in_len {p : Nat → Prop} {w : World} {cs : List Value} {d : DiskD} (h : DiskD.In p w cs d) : cs.length = 1 := by obtain ⟨A0, c0, rfl, _⟩ := h; rfl
def DiskD.Ok (d : DiskD) : Prop := (∀ s ∈ d.files, s.size ≤ maxLen)
def DiskD.lens (d : DiskD) : List Nat := (d.files.length :: d.files.flatMap slens) ++ []
set_option maxRecDepth 100000 in
theorem DiskD.typed {w : World} {n : Nat} {cs : List Value} (h : Typed Tryz.prog w n 46 cs) : ∃ d : DiskD, DiskD.In AnyB w cs d ∧ d.Ok := by
  obtain ⟨hl, m, hf⟩ := typed_struct Tryz.underlying46 h
  have hC : Tryz.prog.cellsOf 46 = 1 := by kernel_rfl
  have hs0 : Tryz.prog.cellsOf 29 = 1 := by kernel_rfl
  rw [hC] at hl
  match cs, hl with
  | [x0], _ =>
    have f0 := hf _ (List.mem_iff_getElem?.2 ⟨0, rfl⟩)
    simp only [hs0, List.drop_zero, List.take_succ_cons, List.take_zero] at f0
    obtain ⟨A0, c0, a0, e0, s0, w0⟩ := typed_sliceF sone (fun s => s.size ≤ maxLen) 1 Tryz.underlying29 (by kernel_rfl) (by decide) sone_length (fun m es h => string_typed h) f0
    obtain rfl : x0 = _ := by simpa using e0
    exact ⟨⟨a0⟩, ⟨_, _, rfl, s0⟩, w0⟩
set_option maxHeartbeats 2000000 in
set_option maxRecDepth 100000 in
theorem szDisk_any (d : DiskD) (A0 : Option Addr) (c0 : Nat) (left : Int) (w : World) (hok : d.Ok) (s0 : SlF AnyB sone 1 w A0 d.files c0) (h0 : 0 ≤ left) (h1 : left ≤ 1048576) :
    Calls Tryz.prog 19 #[.agg #[.slice A0 d.files.length c0], .int .i64 left] w fun e w' => e = .returned (.int .i64 (szL d.lens left)) ∧ Ext w w' := by
  have k_files := hok
  have S0 := Lib.hid s0; clear s0
  have K_files := Lib.hid k_files; clear k_files
  have K0 := Lib.hid (Blk.new w 46 #[.slice A0 d.files.length c0])
  have He := Lib.hid (Ext.new (Below.refl w.heap.size w) (.cells #[.slice A0 d.files.length c0] 46))
  obtain ⟨fin, hfin⟩ : ∃ fin, fin = szL d.lens left := ⟨_, rfl⟩
  have F : Hid (szL ((d.files.length :: d.files.flatMap slens) ++ []) left = fin) := Lib.hid hfin.symm
  rw [← hfin]
  clear hfin
  go_enter Tryz.func19, Tryz.ntmps19
  go_wp2_with fail
  refine (szStringS_any A0 c0 d.files left _ (S0.out.ext He.out) K_files.out h0 h1).mono ?_
  rintro e w1 ⟨rfl, hx⟩
  have K1 := K0.out.ext hx; have he := He.out.next hx; clear hx K0 He
  obtain ⟨r0, m0⟩ := K1.rules
  have hp := szL_pos (d.files.length :: d.files.flatMap slens) left h0
  have hqq := szL_le (d.files.length :: d.files.flatMap slens) left
  by_cases n0 : szL (d.files.length :: d.files.flatMap slens) left < 0
  · have E := Lib.hid (show (-1 : Int) = fin by rw [← F.out, szL_append _ _ _ h0, if_pos n0])
    have ev : szL (d.files.length :: d.files.flatMap slens) left = -1 := by omega
    clear hp hqq F
    go_wp2_with fail
    go_ret
    exact ⟨ret_int E.out, he⟩
  have F2 : Hid (szL ([]) (szL (d.files.length :: d.files.flatMap slens) left) = fin) := Lib.hid (by rw [← F.out, szL_append _ _ _ h0, if_neg n0])
  clear F
  have u0 : 0 ≤ szL (d.files.length :: d.files.flatMap slens) left := by omega
  have v0 : szL (d.files.length :: d.files.flatMap slens) left ≤ 1048576 := by omega
  clear hp hqq
  generalize szL (d.files.length :: d.files.flatMap slens) left = q0 at *
  have F := F2
  clear F2
  go_wp2_with fail
  go_ret
  exact ⟨ret_int (show q0 = fin from F.out), he⟩
set_option maxHeartbeats 4000000 in
set_option maxRecDepth 100000 in
theorem toDisk_any (d : DiskD) (A0 : Option Addr) (c0 : Nat) (w : World) (s0 : SlF AnyB sone 1 w A0 d.files c0) (hf : ∀ n ∈ d.lens, n ≤ 1048576) :
    Calls Tryz.prog 21 #[.agg #[.slice A0 d.files.length c0]] w fun e w' => ∃ cs, e = .returned (.agg cs.toArray) ∧ DiskD.In (FromB w.heap.size) w' cs d ∧ Ext w w' := by
  have l_files : d.files.length ≤ 1048576 := hf _ (by simp [DiskD.lens])
  have S0 := Lib.hid s0; clear s0
  clear hf
  go_enter Tryz.func21, Tryz.ntmps21
  go_wp2_with fail
  have HE : Ext w (((w.alloc (.cells #[.slice A0 d.files.length c0] 46)).alloc (.cells #[.slice none 0 0] 49)).alloc (.cells #[.slice none 0 0] 49)) := Ext.new (Ext.new (Ext.new (Below.refl _ w) _) _) _
  refine (toStringS_any A0 c0 d.files _ (S0.out.ext HE) l_files).mono ?_
  rintro e x0 ⟨g0, rfl, hg, bg, hx⟩
  have B0 := (((Blk.new _ _ _).alloc _).alloc _).ext hx
  have B1 := ((Blk.new _ _ _).alloc _).ext hx
  have B2 := (Blk.new _ _ _).ext hx
  have he := HE.next hx
  have hgs : w.heap.size + 1 + 1 + 1 ≤ w.heap.size + 1 + 1 + 1 := Nat.le_refl _
  simp only [World.size_alloc] at B1 B2 hg
  have T0 : SlF (FromB (w.heap.size + 1 + 1 + 1)) sone 1 x0 (some ⟨g0, 0, none⟩) d.files d.files.length := SlF.new sone_length bg l_files (show _ ≤ _ by omega)
  clear hx HE hgs
  obtain ⟨r0, f0⟩ := B0.rules
  obtain ⟨r2, f2⟩ := B2.rules
  go_upto_region 3 with fail
  have he_ := ext_setCells (W := w) (g := (w.heap.size + 1 + 1)) (by omega) [.slice (some ⟨g0, 0, none⟩) d.files.length d.files.length] 0 x0 he
  have C2 := B2.put 0 [.slice (some ⟨g0, 0, none⟩) d.files.length d.files.length] #[.slice (some ⟨g0, 0, none⟩) d.files.length d.files.length] (by simp) rfl
  have C1 := B1.farCells (g' := (w.heap.size + 1 + 1)) (by omega) [.slice (some ⟨g0, 0, none⟩) d.files.length d.files.length] 0
  have C0 := B0.farCells (g' := (w.heap.size + 1 + 1)) (by omega) [.slice (some ⟨g0, 0, none⟩) d.files.length d.files.length] 0
  replace T0 := T0.keep (Keep.setCells (g := (w.heap.size + 1 + 1)) (by unfold FromB; omega) [.slice (some ⟨g0, 0, none⟩) d.files.length d.files.length] 0 x0)
  clear r0 f0 r2 f2 B0 B1 B2 he
  change Code.wp _ _ _ _ (x0.setCells (w.heap.size + 1 + 1) 0 [.slice (some ⟨g0, 0, none⟩) d.files.length d.files.length])
  generalize x0.setCells (w.heap.size + 1 + 1) 0 [.slice (some ⟨g0, 0, none⟩) d.files.length d.files.length] = y0 at *
  have B0 := C0; have B1 := C1; have B2 := C2; have he := he_
  clear C0 C1 C2 he_
  obtain ⟨r0, f0⟩ := B0.rules
  obtain ⟨r2, f2⟩ := B2.rules
  obtain ⟨r1, f1⟩ := B1.rules
  go_wp2_with fail
  have he_ := ext_setCells (W := w) (g := w.heap.size + 1) (by omega) [.slice (some ⟨g0, 0, none⟩) d.files.length d.files.length] 0 y0 he
  have E1 := B1.put 0 [.slice (some ⟨g0, 0, none⟩) d.files.length d.files.length] #[.slice (some ⟨g0, 0, none⟩) d.files.length d.files.length] (by simp) rfl
  replace T0 := T0.keep (Keep.setCells (g := w.heap.size + 1) (by unfold FromB; omega) [.slice (some ⟨g0, 0, none⟩) d.files.length d.files.length] 0 y0)
  change bodyPost _ _ _ _ _ (y0.setCells (w.heap.size + 1) 0 [.slice (some ⟨g0, 0, none⟩) d.files.length d.files.length])
  clear r0 f0 r1 f1 r2 f2 B0 B1 B2 he
  generalize y0.setCells (w.heap.size + 1) 0 [.slice (some ⟨g0, 0, none⟩) d.files.length d.files.length] = z at *
  exact ret_row rfl rfl E1 Tryz.underlying49 rfl (by kernel_rfl) rfl ⟨[.slice (some ⟨g0, 0, none⟩) d.files.length d.files.length], rfl, ⟨_, _, rfl, T0.mono (fun b hb => by unfold FromB at *; omega)⟩, he_⟩
set_option maxHeartbeats 2000000 in
set_option maxRecDepth 100000 in
theorem eqDisk_same (d : DiskD) (A0 : Option Addr) (c0 : Nat) (B0 : Option Addr) (e0 : Nat) (w : World) (s0 : SlF AnyB sone 1 w A0 d.files c0) (t0 : SlF AnyB sone 1 w B0 d.files e0) (hf : ∀ n ∈ d.lens, n ≤ 1048576) :
    Calls Tryz.prog 23 #[.agg #[.slice A0 d.files.length c0], .agg #[.slice B0 d.files.length e0]] w fun e w' => e = .returned (.bool true) ∧ Ext w w' := by
  have l_files : d.files.length ≤ 1048576 := hf _ (by simp [DiskD.lens])
  have S0 := Lib.hid s0; have T0 := Lib.hid t0; clear s0 t0
  clear hf
  obtain ⟨K0, K1, he⟩ := two_new w #[.slice A0 d.files.length c0] #[.slice B0 d.files.length e0] 49 49
  go_enter Tryz.func23, Tryz.ntmps23
  obtain ⟨r0, f0⟩ := K0.rules
  obtain ⟨r1, f1⟩ := K1.rules
  go_wp2_with fail
  obtain ⟨g, hg⟩ : ∃ g, g = w.heap.size := ⟨_, rfl⟩
  rw [← hg] at K0 K1
  rw [← hg]
  clear hg r0 f0 r1 f1
  refine (eqStringS_slf A0 B0 c0 e0 d.files _ (S0.out.ext he) (T0.out.ext he) l_files).mono ?_
  rintro e x0 ⟨rfl, hx⟩
  replace K0 := K0.ext hx; replace K1 := K1.ext hx; replace he := he.next hx; clear hx
  obtain ⟨r0, f0⟩ := K0.rules
  obtain ⟨r1, f1⟩ := K1.rules
  go_wp2_with fail
  clear r0 f0 r1 f1
  go_ret
  exact ⟨rfl, he⟩
end Go.Proofs.YtkcjhfidgnbdiaaGreat
namespace Go.Proofs.YtkcjhfidgnbdiaaGreat
set_option linter.unusedSimpArgs false
open Go.RowKit
set_option linter.unusedVariables false

structure ClientD where
  width : Int
  name : ByteArray
  head : HeadD
  cursors : List CursorD
def ClientD.In : Rep ClientD := fun p w cs d => ∃ (A0 : Option Addr) (c0 : Nat), cs = [.int .i64 d.width, .string d.name, .int .i64 d.head.number, .int .i64 d.head.size, .string d.head.root, .int .i64 d.head.taken, .string d.head.takenRoot, .slice A0 d.cursors.length c0] ∧ SlF p CursorD.cells 3 w A0 d.cursors c0
theorem ClientD.steady : Steady ClientD.In := ⟨fun h k => by obtain ⟨A0, c0, rfl, s0⟩ := h; exact ⟨_, _, rfl, s0.keep k⟩, fun h k => by obtain ⟨A0, c0, rfl, s0⟩ := h; exact ⟨_, _, rfl, s0.mono k⟩⟩
theorem ClientD.in_len {p : Nat → Prop} {w : World} {cs : List Value} {d : ClientD} (h : ClientD.In p w cs d) : cs.length = 8 := by obtain ⟨A0, c0, rfl, _⟩ := h; rfl
def ClientD.Ok (d : ClientD) : Prop := (Lit.int .i64 d.width).wf = true ∧ d.name.size ≤ maxLen ∧ d.head.Ok ∧ (∀ x ∈ d.cursors, x.Ok)
def ClientD.lens (d : ClientD) : List Nat := [d.name.size] ++ (d.head.lens ++ ((d.cursors.length :: d.cursors.flatMap CursorD.lens) ++ []))
set_option maxHeartbeats 2000000 in
set_option maxRecDepth 100000 in
theorem eqClient_same (d : ClientD) (A0 : Option Addr) (c0 : Nat) (B0 : Option Addr) (e0 : Nat) (w : World) (s0 : SlF AnyB CursorD.cells 3 w A0 d.cursors c0) (t0 : SlF AnyB CursorD.cells 3 w B0 d.cursors e0) (hf : ∀ n ∈ d.lens, n ≤ 1048576) :
    Calls Tryz.prog 184 #[.agg #[.int .i64 d.width, .string d.name, .int .i64 d.head.number, .int .i64 d.head.size, .string d.head.root, .int .i64 d.head.taken, .string d.head.takenRoot, .slice A0 d.cursors.length c0], .agg #[.int .i64 d.width, .string d.name, .int .i64 d.head.number, .int .i64 d.head.size, .string d.head.root, .int .i64 d.head.taken, .string d.head.takenRoot, .slice B0 d.cursors.length e0]] w fun e w' => e = .returned (.bool true) ∧ Ext w w' := by
  have l_cursors : d.cursors.length ≤ 1048576 := hf _ (by simp [ClientD.lens])
  have S0 := Lib.hid s0; have T0 := Lib.hid t0; clear s0 t0
  clear hf
  obtain ⟨K0, K1, he⟩ := two_new w #[.int .i64 d.width, .string d.name, .int .i64 d.head.number, .int .i64 d.head.size, .string d.head.root, .int .i64 d.head.taken, .string d.head.takenRoot, .slice A0 d.cursors.length c0] #[.int .i64 d.width, .string d.name, .int .i64 d.head.number, .int .i64 d.head.size, .string d.head.root, .int .i64 d.head.taken, .string d.head.takenRoot, .slice B0 d.cursors.length e0] 142 142
  go_enter Tryz.func184, Tryz.ntmps184
  obtain ⟨r0, f0⟩ := K0.rules
  obtain ⟨r1, f1⟩ := K1.rules
  go_wp2_with fail
  obtain ⟨g, hg⟩ : ∃ g, g = w.heap.size := ⟨_, rfl⟩
  rw [← hg] at K0 K1
  rw [← hg]
  clear hg r0 f0 r1 f1
  refine (eqHead_same d.head _).mono ?_
  rintro e x2 ⟨rfl, hx⟩
  replace K0 := K0.ext hx; replace K1 := K1.ext hx; replace he := he.next hx; clear hx
  obtain ⟨r0, f0⟩ := K0.rules
  obtain ⟨r1, f1⟩ := K1.rules
  go_wp2_with fail
  clear r0 f0 r1 f1
  refine (eqCursorS_same A0 B0 c0 e0 d.cursors _ (S0.out.ext he).reads (T0.out.ext he).reads l_cursors).mono ?_
  rintro e x3 ⟨rfl, hx⟩
  replace K0 := K0.ext hx; replace K1 := K1.ext hx; replace he := he.next hx; clear hx
  obtain ⟨r0, f0⟩ := K0.rules
  obtain ⟨r1, f1⟩ := K1.rules
  go_wp2_with fail
  clear r0 f0 r1 f1
  go_ret
  exact ⟨rfl, he⟩
set_option maxHeartbeats 2000000 in
set_option maxRecDepth 100000 in
theorem eqClientS_same (A A' : Option Addr) (c c' : Nat) (l : List ClientD) (w : World) (hr : SlN AnyB ClientD.In 8 w A l c) (hr' : SlN AnyB ClientD.In 8 w A' l c') (hl : l.length ≤ 1048576) (hf : ∀ x ∈ l, ∀ n ∈ x.lens, n ≤ 1048576) :
    Calls Tryz.prog 95 #[.slice A l.length c, .slice A' l.length c'] w fun e w' => e = .returned (.bool true) ∧ Ext w w' := by
  have Hr := Lib.hid hr; clear hr
  have Hr2 := Lib.hid hr'; clear hr'
  have Hf := Lib.hid hf; clear hf
  go_enter Tryz.func95, Tryz.ntmps95
  go_wp2_with fail
  go_loopw [5] (fun i wr => ∃ (k : Nat), k ≤ l.length ∧ i = .int .i64 k ∧ Ext w wr) (fun i _ => l.length - (intOf i).toNat)
  case atStart => exact ⟨0, Nat.zero_le _, rfl, Below.refl _ _⟩
  case round =>
    obtain ⟨k, hk, rfl, he⟩ := hrel
    by_cases hlt : k < l.length
    · obtain ⟨b, off, cs, rfl, hb, hcl, hR, hc⟩ := (SlN.ext ClientD.steady Hr.out he).at_ (k := k) hlt
      obtain ⟨b', off', cs', rfl, hb', hcl', hR', hc'⟩ := (SlN.ext ClientD.steady Hr2.out he).at_ (k := k) hlt
      obtain ⟨d, hd⟩ : ∃ d, d = l[k] := ⟨_, rfl⟩
      have Hfd := Lib.hid (Hf.out _ (List.getElem_mem hlt))
      rw [← hd] at hR hR' Hfd
      obtain ⟨A0, c0, rfl, s0⟩ := hR
      obtain ⟨B0, e0, rfl, t0⟩ := hR'
      have y0 := hc 0 _ (by decide) rfl
      have y1 := hc 1 _ (by decide) rfl
      have y2 := hc 2 _ (by decide) rfl
      have y3 := hc 3 _ (by decide) rfl
      have y4 := hc 4 _ (by decide) rfl
      have y5 := hc 5 _ (by decide) rfl
      have y6 := hc 6 _ (by decide) rfl
      have y7 := hc 7 _ (by decide) rfl
      have u0 := hc' 0 _ (by decide) rfl
      have u1 := hc' 1 _ (by decide) rfl
      have u2 := hc' 2 _ (by decide) rfl
      have u3 := hc' 3 _ (by decide) rfl
      have u4 := hc' 4 _ (by decide) rfl
      have u5 := hc' 5 _ (by decide) rfl
      have u6 := hc' 6 _ (by decide) rfl
      have u7 := hc' 7 _ (by decide) rfl
      rw [Nat.add_zero] at y0 u0
      clear hc hc' hd hcl hcl'
      have S0 := Lib.hid s0; have T0 := Lib.hid t0; clear s0 t0
      go_wp2_with fail
      go_still_tail 8, (by kernel_rfl)
      have he0 : Ext wr wr.drew := ⟨rfl, rfl, rfl, Nat.le_refl _, fun _ _ => rfl⟩
      change wpList _ _ _ _ _ wr.drew
      generalize hw : wr.drew = w2 at *
      have he2 : Ext w w2 := he.next he0
      clear hw he
      go_wp2_with fail
      refine (eqClient_same d A0 c0 B0 e0 _ (S0.out.ext he0) (T0.out.ext he0) Hfd.out).mono ?_
      rintro e w1 ⟨rfl, h1⟩
      replace he2 := he2.next h1; clear h1 he0 y0 y1 y2 y3 y4 y5 y6 y7 u0 u1 u2 u3 u4 u5 u6 u7
      go_wp2_with fail
      go_roundw
      case rel => exact ⟨k + 1, by omega, by go_num, he2⟩
      case measure => simp [intOf]; omega
    · go_wp2_with fail
      go_ret
      exact ⟨rfl, he⟩
end Go.Proofs.YtkcjhfidgnbdiaaGreat
namespace Go.Proofs.YtkcjhfidgnbdiaaGreat
set_option linter.unusedSimpArgs false
open Go.RowKit
set_option linter.unusedVariables false

def GivenD.lens (d : GivenD) : List Nat := [d.entry.topic.size, d.entry.key.size, d.entry.body.size]
theorem eqGiven_same (d : GivenD) (w : World) :
    Calls Tryz.prog 185 #[.agg #[.int .i64 d.who, .int .i64 d.leaf, .string d.entry.topic, .int .i64 d.entry.index, .int .i64 d.entry.time, .string d.entry.key, .string d.entry.body], .agg #[.int .i64 d.who, .int .i64 d.leaf, .string d.entry.topic, .int .i64 d.entry.index, .int .i64 d.entry.time, .string d.entry.key, .string d.entry.body]] w fun e w' => e = .returned (.bool true) ∧ Ext w w' := by
  have he := Ext.new (Ext.new (Below.refl w.heap.size w) (.cells #[.int .i64 d.who, .int .i64 d.leaf, .string d.entry.topic, .int .i64 d.entry.index, .int .i64 d.entry.time, .string d.entry.key, .string d.entry.body] 232)) (.cells #[.int .i64 d.who, .int .i64 d.leaf, .string d.entry.topic, .int .i64 d.entry.index, .int .i64 d.entry.time, .string d.entry.key, .string d.entry.body] 232)
  go_enter Tryz.func185, Tryz.ntmps185
  go_wp2_with fail
  refine (eqEntry_same d.entry _).mono ?_
  rintro e w1 ⟨rfl, h1⟩
  replace he := he.next h1; clear h1
  go_wp2_with fail
  go_ret
  exact ⟨rfl, he⟩

set_option maxHeartbeats 1000000 in
set_option maxRecDepth 100000 in
theorem eqGivenS_same (A A' : Option Addr) (c c' : Nat) (l : List GivenD) (w : World) (hr : ReadsL w w.heap.size GivenD.cells 7 A l) (hr' : ReadsL w w.heap.size GivenD.cells 7 A' l) (hl : l.length ≤ 1048576) :
    Calls Tryz.prog 96 #[.slice A l.length c, .slice A' l.length c'] w fun e w' => e = .returned (.bool true) ∧ Ext w w' := by
  go_enter Tryz.func96, Tryz.ntmps96
  go_wp2
  go_loopw [5] (fun i wr => ∃ (k : Nat), k ≤ l.length ∧ i = .int .i64 k ∧ Ext w wr) (fun i _ => l.length - (intOf i).toNat)
  case atStart => exact ⟨0, Nat.zero_le _, rfl, Below.refl _ _⟩
  case round =>
    obtain ⟨k, hk, rfl, he⟩ := hrel
    by_cases hlt : k < l.length
    · obtain ⟨b, off, rfl, hb, hc⟩ := (hr.below he).at_ (k := k) hlt
      obtain ⟨b', off', rfl, hb', hc'⟩ := (hr'.below he).at_ (k := k) hlt
      obtain ⟨d, hd⟩ : ∃ d, d = l[k] := ⟨_, rfl⟩
      have hdl : l[k]? = some d := by rw [hd]; exact List.getElem?_eq_getElem hlt
      have c0 := hc 0 _ (flat_at _ 7 GivenD.cells_length l k 0 d hdl (by omega))
      have c1 := hc 1 _ (flat_at _ 7 GivenD.cells_length l k 1 d hdl (by omega))
      have c2 := hc 2 _ (flat_at _ 7 GivenD.cells_length l k 2 d hdl (by omega))
      have c3 := hc 3 _ (flat_at _ 7 GivenD.cells_length l k 3 d hdl (by omega))
      have c4 := hc 4 _ (flat_at _ 7 GivenD.cells_length l k 4 d hdl (by omega))
      have c5 := hc 5 _ (flat_at _ 7 GivenD.cells_length l k 5 d hdl (by omega))
      have c6 := hc 6 _ (flat_at _ 7 GivenD.cells_length l k 6 d hdl (by omega))
      have b0 := hc' 0 _ (flat_at _ 7 GivenD.cells_length l k 0 d hdl (by omega))
      have b1 := hc' 1 _ (flat_at _ 7 GivenD.cells_length l k 1 d hdl (by omega))
      have b2 := hc' 2 _ (flat_at _ 7 GivenD.cells_length l k 2 d hdl (by omega))
      have b3 := hc' 3 _ (flat_at _ 7 GivenD.cells_length l k 3 d hdl (by omega))
      have b4 := hc' 4 _ (flat_at _ 7 GivenD.cells_length l k 4 d hdl (by omega))
      have b5 := hc' 5 _ (flat_at _ 7 GivenD.cells_length l k 5 d hdl (by omega))
      have b6 := hc' 6 _ (flat_at _ 7 GivenD.cells_length l k 6 d hdl (by omega))
      rw [Nat.add_zero] at c0 b0
      clear hc hc' hd hdl
      go_wp2_with fail
      go_still_tail 8, (by kernel_rfl)
      change wpList _ _ _ _ _ wr.drew
      generalize hw : wr.drew = w2
      have he2 : Ext w w2 := by rw [← hw]; exact he.drew
      clear hw he
      go_wp2_with fail
      refine (eqGiven_same d _).mono ?_
      rintro e w1 ⟨rfl, h1⟩
      replace he2 := he2.next h1; clear h1 c0 c1 c2 c3 c4 c5 c6 b0 b1 b2 b3 b4 b5 b6
      go_wp2_with fail
      go_roundw
      case rel => exact ⟨k + 1, by omega, by go_num, he2⟩
      case measure => simp [intOf]; omega
    · go_wp2_with fail
      go_ret
      exact ⟨rfl, he⟩
end Go.Proofs.YtkcjhfidgnbdiaaGreat
