/-
  The program's ClientOk returns what the reference's returns, for all arguments. Written by program (gen_cliok.py). No condition.
-/
import Derived.Test.YtaicjimppcledaaRows
import Derived.Test.YtaicjimppcledaaFacts
import Derived.Test.YtaicjimppcledaaCliOps
import Derived.Test.YtaicjimppcledaaCliConv
namespace Go.Proofs.Ytaicjimppcledaa
open Go.RowKit Go.WideShapes Go.ChangeAt
set_option linter.unusedVariables false

set_option maxRecDepth 100000 in
theorem typed_client {w : World} {k : Nat} {cs : List Value} (hT : Typed Try.prog w k 84 cs) : ∃ (n : Int) (s : ByteArray) (h : HeadD) (A : Option Addr) (c : Nat) (l : List CursorD), cs = [.int .i64 n, .string s, .int .i64 h.number, .int .i64 h.size, .string h.root, .int .i64 h.taken, .string h.takenRoot, .slice A l.length c] ∧ s.size ≤ maxLen ∧ h.Ok ∧ l.length ≤ c ∧ c ≤ maxLen ∧ ReadsL w w.heap.size CursorD.cells 3 A l ∧ ∀ d ∈ l, d.Ok := by
  obtain ⟨hl, m, hf⟩ := typed_struct Try.underlying84 hT
  have hC : Try.prog.cellsOf 84 = 8 := by kernel_rfl
  have hI : Try.prog.cellsOf 3 = 1 := by kernel_rfl
  have hS : Try.prog.cellsOf 9 = 1 := by kernel_rfl
  have hH : Try.prog.cellsOf 33 = 5 := by kernel_rfl
  have hQ : Try.prog.cellsOf 82 = 1 := by kernel_rfl
  rw [hC] at hl
  match cs, hl with
  | [c0, c1, c2, c3, c4, c5, c6, c7], _ =>
    have f0 := hf _ (List.mem_iff_getElem?.2 ⟨0, rfl⟩)
    simp only [hI, List.drop_zero, List.take_succ_cons, List.take_zero] at f0
    obtain ⟨a0, e0, w0⟩ := typed_int Try.underlying3 f0
    obtain rfl : c0 = _ := by simpa using e0
    have f1 := hf _ (List.mem_iff_getElem?.2 ⟨1, rfl⟩)
    simp only [hS, List.drop_succ_cons, List.drop_zero, List.take_succ_cons, List.take_zero] at f1
    obtain ⟨a1, e1, w1⟩ := typed_string Try.underlying9 f1
    obtain rfl : c1 = _ := by simpa using e1
    have f2 := hf _ (List.mem_iff_getElem?.2 ⟨2, rfl⟩)
    simp only [hH, List.drop_succ_cons, List.drop_zero, List.take_succ_cons, List.take_zero] at f2
    obtain ⟨a2, e2, w2⟩ := HeadD.typed f2
    simp only [HeadD.cells, List.cons.injEq, and_true] at e2
    obtain ⟨rfl, rfl, rfl, rfl, rfl⟩ := e2
    have f3 := hf _ (List.mem_iff_getElem?.2 ⟨3, rfl⟩)
    simp only [hQ, List.drop_succ_cons, List.drop_zero, List.take_succ_cons, List.take_zero] at f3
    obtain ⟨A, c, l, e3, x3, y3, r3, k3⟩ := typed_slice CursorD.cells CursorD.Ok 3 Try.underlying82 (by kernel_rfl) (by decide) CursorD.cells_length (fun m es h => CursorD.typed h) f3
    obtain rfl : c7 = _ := by simpa using e3
    exact ⟨a0, a1, a2, A, c, l, rfl, w1, w2, x3, y3, r3, k3⟩

set_option maxHeartbeats 4000000 in
set_option maxRecDepth 100000 in
theorem lawClientOk_walk (n : Int) (s : ByteArray) (h : HeadD) (A : Option Addr) (c : Nat) (l : List CursorD) (w : World) (hs : s.size ≤ maxLen) (hh : h.Ok) (hr : ReadsL w w.heap.size CursorD.cells 3 A l) (hok : ∀ d ∈ l, d.Ok) (hll : l.length ≤ maxLen) :
    Calls Try.prog 13 #[.agg #[.int .i64 n, .string s, .int .i64 h.number, .int .i64 h.size, .string h.root, .int .i64 h.taken, .string h.takenRoot, .slice A l.length c]] w fun e w' => e = .returned (.bool true) ∧ Ext w w' := by
  have Hok := Lib.hid hok; clear hok
  have Hr := Lib.hid hr; clear hr
  have K0 := Blk.new w 84 #[.int .i64 n, .string s, .int .i64 h.number, .int .i64 h.size, .string h.root, .int .i64 h.taken, .string h.takenRoot, .slice A l.length c]
  have he := Ext.new (Below.refl w.heap.size w) (.cells #[.int .i64 n, .string s, .int .i64 h.number, .int .i64 h.size, .string h.root, .int .i64 h.taken, .string h.takenRoot, .slice A l.length c] 84)
  by_cases c0 : szL (clientLens s h l) 1048576 < 0
  · go_enter Try.func13, Try.ntmps13
    obtain ⟨r0, m0⟩ := K0.rules
    go_wp2_with fail
    obtain ⟨g, hg⟩ : ∃ g, g = w.heap.size := ⟨_, rfl⟩
    rw [← hg] at K0
    rw [← hg]
    clear hg r0 m0
    refine (szClient_any n s h A c l _ _ hs hh (Hr.out.ext he) Hok.out hll (by decide) (by decide)).mono ?_
    rintro e w1 ⟨rfl, h1⟩
    replace he := he.next h1
    go_wp2_with fail
    go_ret
    exact ⟨rfl, he⟩
  have hl : l.length ≤ 1048576 := clientLens_cur (by decide) (by decide) c0
  go_enter Try.func13, Try.ntmps13
  obtain ⟨r0, m0⟩ := K0.rules
  go_wp2_with fail
  obtain ⟨g, hg⟩ : ∃ g, g = w.heap.size := ⟨_, rfl⟩
  rw [← hg] at K0
  rw [← hg]
  clear hg r0 m0
  refine (szClient_any n s h A c l _ _ hs hh (Hr.out.ext he) Hok.out hll (by decide) (by decide)).mono ?_
  rintro e w1 ⟨rfl, h1⟩
  replace K0 := K0.ext h1; replace he := he.next h1; clear h1
  obtain ⟨r0, m0⟩ := K0.rules
  go_wp2_with fail
  refine (toClient_any n s h A c l _ (Hr.out.ext he) hl).mono ?_
  rintro e w2 ⟨y, rfl, _, bq, h1⟩
  replace K0 := K0.ext h1; replace he := he.next h1; clear h1 r0 m0
  go_wp2_with fail
  refine (specClientOk_any n s h _ _ l _ hs (bq.readsL CursorD.cells_length) Hok.out hl).mono ?_
  rintro e w3 ⟨rfl, h1⟩
  obtain ⟨ok, hok⟩ : ∃ ok, ok = clientOk n s h l := ⟨_, rfl⟩
  have Ho := Lib.hid hok
  rw [← hok]
  clear hok
  replace K0 := K0.ext h1; replace he := he.next h1; clear h1 bq
  obtain ⟨r0, m0⟩ := K0.rules
  go_wp2_with fail
  refine (toClient_any n s h A c l _ (Hr.out.ext he) hl).mono ?_
  rintro e w4 ⟨x, rfl, _, bx, h1⟩
  replace K0 := K0.ext h1; replace he := he.next h1; clear h1 r0 m0
  go_upto_region 7 with fail
  have b0 := Blk.new w4 71 #[.int .i64 n, .string s, .int .i64 h.number, .int .i64 h.size, .string h.root, .int .i64 h.taken, .string h.takenRoot, .slice (some ⟨x, 0, none⟩) l.length l.length]
  replace he := he.new (.cells #[.int .i64 n, .string s, .int .i64 h.number, .int .i64 h.size, .string h.root, .int .i64 h.taken, .string h.takenRoot, .slice (some ⟨x, 0, none⟩) l.length l.length] 71)
  replace K0 := K0.alloc (.cells #[.int .i64 n, .string s, .int .i64 h.number, .int .i64 h.size, .string h.root, .int .i64 h.taken, .string h.takenRoot, .slice (some ⟨x, 0, none⟩) l.length l.length] 71)
  replace bx := bx.alloc (.cells #[.int .i64 n, .string s, .int .i64 h.number, .int .i64 h.size, .string h.root, .int .i64 h.taken, .string h.takenRoot, .slice (some ⟨x, 0, none⟩) l.length l.length] 71)
  obtain ⟨gx, hgx⟩ : ∃ gx, gx = w4.heap.size := ⟨_, rfl⟩
  rw [← hgx] at b0
  rw [← hgx]
  clear hgx
  generalize w4.alloc (.cells #[.int .i64 n, .string s, .int .i64 h.number, .int .i64 h.size, .string h.root, .int .i64 h.taken, .string h.takenRoot, .slice (some ⟨x, 0, none⟩) l.length l.length] 71) = w5 at *
  obtain ⟨r1, m1⟩ := b0.rules
  go_wp2_with fail
  refine (implClientOk_any n s h _ _ l _ hs (bx.readsL CursorD.cells_length) Hok.out hl).mono ?_
  rintro e w6 ⟨he1, h1⟩
  rw [← Ho.out] at he1
  subst he1
  replace K0 := K0.ext h1; replace he := he.next h1; replace b0 := b0.ext h1; replace bx := bx.ext h1; clear h1 r1 m1
  obtain ⟨r0, m0⟩ := K0.rules
  obtain ⟨r1, m1⟩ := b0.rules
  cases ok
  all_goals
    go_wp2_with fail
    go_region_held3 (fun w' => w'.cell? ⟨g, 0, none⟩ = some (.int .i64 n) ∧ w'.cell? ⟨g, 1, none⟩ = some (.string s) ∧ w'.cell? ⟨g, 2, none⟩ = some (.int .i64 h.number) ∧ w'.cell? ⟨g, 3, none⟩ = some (.int .i64 h.size) ∧ w'.cell? ⟨g, 4, none⟩ = some (.string h.root) ∧ w'.cell? ⟨g, 5, none⟩ = some (.int .i64 h.taken) ∧ w'.cell? ⟨g, 6, none⟩ = some (.string h.takenRoot) ∧ w'.cell? ⟨g, 7, none⟩ = some (.slice A l.length c) ∧ w'.cell? ⟨gx, 0, none⟩ = some (.int .i64 n) ∧ w'.cell? ⟨gx, 1, none⟩ = some (.string s) ∧ w'.cell? ⟨gx, 2, none⟩ = some (.int .i64 h.number) ∧ w'.cell? ⟨gx, 3, none⟩ = some (.int .i64 h.size) ∧ w'.cell? ⟨gx, 4, none⟩ = some (.string h.root) ∧ w'.cell? ⟨gx, 5, none⟩ = some (.int .i64 h.taken) ∧ w'.cell? ⟨gx, 6, none⟩ = some (.string h.takenRoot) ∧ w'.cell? ⟨gx, 7, none⟩ = some (.slice (some ⟨x, 0, none⟩) l.length l.length) ∧ Blk w' g 84 #[.int .i64 n, .string s, .int .i64 h.number, .int .i64 h.size, .string h.root, .int .i64 h.taken, .string h.takenRoot, .slice A l.length c] ∧ Blk w' gx 71 #[.int .i64 n, .string s, .int .i64 h.number, .int .i64 h.size, .string h.root, .int .i64 h.taken, .string h.takenRoot, .slice (some ⟨x, 0, none⟩) l.length l.length] ∧ Blk w' x 136 (l.flatMap CursorD.cells).toArray ∧ Ext w w')
      (first | exact ⟨r0 0, r0 1, r0 2, r0 3, r0 4, r0 5, r0 6, r0 7, r1 0, r1 1, r1 2, r1 3, r1 4, r1 5, r1 6, r1 7, K0.drew, b0.drew, bx.drew, he.drew⟩ | (go_split_ands; refine ⟨?_, ?_, ?_, ?_, ?_, ?_, ?_, ?_, ?_, ?_, ?_, ?_, ?_, ?_, ?_, ?_, ?_, ?_, ?_, ?_⟩ <;> assumption) | (go_split_ands; have N0 := Blk.ext (g := g) (by assumption) h1; have N1 := Blk.ext (g := gx) (by assumption) h1; have N2 := Blk.ext (g := x) (by assumption) h1; exact ⟨N0.cell 0, N0.cell 1, N0.cell 2, N0.cell 3, N0.cell 4, N0.cell 5, N0.cell 6, N0.cell 7, N1.cell 0, N1.cell 1, N1.cell 2, N1.cell 3, N1.cell 4, N1.cell 5, N1.cell 6, N1.cell 7, N0, N1, N2, Ext.next (by assumption) h1⟩))
      (first | (go_at_call 57; go_split_ands; refine (toClient_any n s h A c l _ (Hr.out.ext (by assumption)) hl).mono ?_; rintro e w' ⟨z, rfl, _, bz, h1⟩) | (go_at_call 47; go_split_ands; refine (eqClient_same n s h (some ⟨x, 0, none⟩) (some ⟨z, 0, none⟩) _ _ l _ (Blk.readsL (g := x) (t := 136) CursorD.cells_length (by assumption)) (Blk.readsL (g := z) (t := 136) CursorD.cells_length (by assumption)) hl).mono ?_; rintro e w' ⟨rfl, h1⟩))
  all_goals
    go_split_ands
    go_wp2_with fail
    go_ret
    exact ⟨rfl, by assumption⟩

set_option maxRecDepth 100000 in
theorem ClientOk_holds : Rows.FnExactClientOkSaid :=
  lawOver (p := Try.pinned) (c := Rows.fnExactClientOkRow) (s := Rows.fnExactClientOkSpec) 13 Try.f13 4
    own laidOut (by kernel_rfl) (by kernel_rfl) rfl rfl Try.underlying4
    (fun H ds h => by match ds, h with | [d0], _ => rfl)
    rfl rfl rfl rfl rfl rfl rfl ⟨rfl, rfl, rfl, rfl, rfl⟩ rfl rfl rfl rfl rfl (by kernel_rfl) Try.func13 (by kernel_rfl)
    (of_decide_eq_true (by kernel_rfl)) (by unfold Func.isWrapper; rw [if_neg (of_decide_eq_false (by kernel_rfl))]; exact ⟨rfl, rfl⟩)
    rfl rfl (fun _ _ => rfl) rfl rfl rfl rfl
    (fun os started H enc => ChangeSpec.witness6 (enc := enc) (C := Try.checked) false ⟨#[], #[.agg #[.int .i64 0, .string ⟨#[]⟩, .int .i64 0, .int .i64 0, .string ⟨#[]⟩, .int .i64 0, .string ⟨#[]⟩, .slice none 0 0]], []⟩ 20 (by kernel_rfl) (by kernel_rfl) (by kernel_rfl) (by kernel_rfl))
    (fun W args h => by
      have hs := h.size
      obtain ⟨l⟩ := args
      match l, hs with
      | [v0], _ =>
        obtain ⟨base0, n0, o0, t0⟩ := h.arg 0 84 v0 rfl rfl
        obtain ⟨cs0, rfl, _⟩ := okWide_struct Try.underlying84 o0
        obtain ⟨n, s, b, A, c, l, e0, hs, hh, hlc, hcm, hr, hk⟩ := typed_client t0
        obtain rfl : cs0 = #[.int .i64 n, .string s, .int .i64 b.number, .int .i64 b.size, .string b.root, .int .i64 b.taken, .string b.takenRoot, .slice A l.length c] := by have h2 : cs0.toList = [.int .i64 n, .string s, .int .i64 b.number, .int .i64 b.size, .string b.root, .int .i64 b.taken, .string b.takenRoot, .slice A l.length c] := e0; rw [← Array.toList_inj, h2]
        exact lawClientOk_walk n s b A c l W hs hh hr hk (by omega))
#print axioms ClientOk_holds
end Go.Proofs.Ytaicjimppcledaa
