/-
  The program's EvidenceOf returns what the reference's returns, for all arguments. No condition.
-/
import Derived.Test.YtaicjimppcledaaRows
import Derived.Test.YtaicjimppcledaaFacts
import Derived.Test.YtaicjimppcledaaEvOf
import Derived.Test.YtaicjimppcledaaConvHead
import Derived.Test.YtaicjimppcledaaConvEvidence
namespace Go.Proofs.Ytaicjimppcledaa
open Go.RowKit Go.WideShapes Go.ChangeAt
set_option linter.unusedVariables false
def HeadsHeld (w : World) (g : Nat) (a b : HeadD) (w' : World) : Prop := w'.cell? ⟨g, 0, none⟩ = some (.int .i64 a.number) ∧ w'.cell? ⟨g, 1, none⟩ = some (.int .i64 a.size) ∧ w'.cell? ⟨g, 2, none⟩ = some (.string a.root) ∧ w'.cell? ⟨g, 3, none⟩ = some (.int .i64 a.taken) ∧ w'.cell? ⟨g, 4, none⟩ = some (.string a.takenRoot) ∧ w'.cell? ⟨g + 1, 0, none⟩ = some (.int .i64 b.number) ∧ w'.cell? ⟨g + 1, 1, none⟩ = some (.int .i64 b.size) ∧ w'.cell? ⟨g + 1, 2, none⟩ = some (.string b.root) ∧ w'.cell? ⟨g + 1, 3, none⟩ = some (.int .i64 b.taken) ∧ w'.cell? ⟨g + 1, 4, none⟩ = some (.string b.takenRoot) ∧ Blk w' g 33 #[.int .i64 a.number, .int .i64 a.size, .string a.root, .int .i64 a.taken, .string a.takenRoot] ∧ Blk w' (g + 1) 33 #[.int .i64 b.number, .int .i64 b.size, .string b.root, .int .i64 b.taken, .string b.takenRoot] ∧ Ext w w'
theorem heads_at {w w' : World} {g : Nat} {a b : HeadD} (k0 : Blk w' g 33 #[.int .i64 a.number, .int .i64 a.size, .string a.root, .int .i64 a.taken, .string a.takenRoot]) (k1 : Blk w' (g + 1) 33 #[.int .i64 b.number, .int .i64 b.size, .string b.root, .int .i64 b.taken, .string b.takenRoot]) (he : Ext w w') : w'.cell? ⟨g, 0, none⟩ = some (.int .i64 a.number) ∧ w'.cell? ⟨g, 1, none⟩ = some (.int .i64 a.size) ∧ w'.cell? ⟨g, 2, none⟩ = some (.string a.root) ∧ w'.cell? ⟨g, 3, none⟩ = some (.int .i64 a.taken) ∧ w'.cell? ⟨g, 4, none⟩ = some (.string a.takenRoot) ∧ w'.cell? ⟨g + 1, 0, none⟩ = some (.int .i64 b.number) ∧ w'.cell? ⟨g + 1, 1, none⟩ = some (.int .i64 b.size) ∧ w'.cell? ⟨g + 1, 2, none⟩ = some (.string b.root) ∧ w'.cell? ⟨g + 1, 3, none⟩ = some (.int .i64 b.taken) ∧ w'.cell? ⟨g + 1, 4, none⟩ = some (.string b.takenRoot) ∧ Blk w' g 33 #[.int .i64 a.number, .int .i64 a.size, .string a.root, .int .i64 a.taken, .string a.takenRoot] ∧ Blk w' (g + 1) 33 #[.int .i64 b.number, .int .i64 b.size, .string b.root, .int .i64 b.taken, .string b.takenRoot] ∧ Ext w w' :=
  ⟨k0.cell 0, k0.cell 1, k0.cell 2, k0.cell 3, k0.cell 4, k1.cell 0, k1.cell 1, k1.cell 2, k1.cell 3, k1.cell 4, k0, k1, he⟩
theorem heads_alloc {w w' : World} {g : Nat} {a b : HeadD} (o : Obj) (k0 : Blk w' g 33 #[.int .i64 a.number, .int .i64 a.size, .string a.root, .int .i64 a.taken, .string a.takenRoot]) (k1 : Blk w' (g + 1) 33 #[.int .i64 b.number, .int .i64 b.size, .string b.root, .int .i64 b.taken, .string b.takenRoot]) (he : Ext w w') : (w'.alloc o).cell? ⟨g, 0, none⟩ = some (.int .i64 a.number) ∧ (w'.alloc o).cell? ⟨g, 1, none⟩ = some (.int .i64 a.size) ∧ (w'.alloc o).cell? ⟨g, 2, none⟩ = some (.string a.root) ∧ (w'.alloc o).cell? ⟨g, 3, none⟩ = some (.int .i64 a.taken) ∧ (w'.alloc o).cell? ⟨g, 4, none⟩ = some (.string a.takenRoot) ∧ (w'.alloc o).cell? ⟨g + 1, 0, none⟩ = some (.int .i64 b.number) ∧ (w'.alloc o).cell? ⟨g + 1, 1, none⟩ = some (.int .i64 b.size) ∧ (w'.alloc o).cell? ⟨g + 1, 2, none⟩ = some (.string b.root) ∧ (w'.alloc o).cell? ⟨g + 1, 3, none⟩ = some (.int .i64 b.taken) ∧ (w'.alloc o).cell? ⟨g + 1, 4, none⟩ = some (.string b.takenRoot) ∧ Blk (w'.alloc o) g 33 #[.int .i64 a.number, .int .i64 a.size, .string a.root, .int .i64 a.taken, .string a.takenRoot] ∧ Blk (w'.alloc o) (g + 1) 33 #[.int .i64 b.number, .int .i64 b.size, .string b.root, .int .i64 b.taken, .string b.takenRoot] ∧ Ext w (w'.alloc o) :=
  heads_at (k0.alloc o) (k1.alloc o) (he.new o)
theorem heads_store {w w' : World} {g g' : Nat} {a b : HeadD} (vs : List Value) (k0 : Blk w' g 33 #[.int .i64 a.number, .int .i64 a.size, .string a.root, .int .i64 a.taken, .string a.takenRoot]) (k1 : Blk w' (g + 1) 33 #[.int .i64 b.number, .int .i64 b.size, .string b.root, .int .i64 b.taken, .string b.takenRoot]) (he : Ext w w') (hg : g + 1 < g') (hw : w.heap.size ≤ g') : (w'.setCells g' 0 vs).cell? ⟨g, 0, none⟩ = some (.int .i64 a.number) ∧ (w'.setCells g' 0 vs).cell? ⟨g, 1, none⟩ = some (.int .i64 a.size) ∧ (w'.setCells g' 0 vs).cell? ⟨g, 2, none⟩ = some (.string a.root) ∧ (w'.setCells g' 0 vs).cell? ⟨g, 3, none⟩ = some (.int .i64 a.taken) ∧ (w'.setCells g' 0 vs).cell? ⟨g, 4, none⟩ = some (.string a.takenRoot) ∧ (w'.setCells g' 0 vs).cell? ⟨g + 1, 0, none⟩ = some (.int .i64 b.number) ∧ (w'.setCells g' 0 vs).cell? ⟨g + 1, 1, none⟩ = some (.int .i64 b.size) ∧ (w'.setCells g' 0 vs).cell? ⟨g + 1, 2, none⟩ = some (.string b.root) ∧ (w'.setCells g' 0 vs).cell? ⟨g + 1, 3, none⟩ = some (.int .i64 b.taken) ∧ (w'.setCells g' 0 vs).cell? ⟨g + 1, 4, none⟩ = some (.string b.takenRoot) ∧ Blk (w'.setCells g' 0 vs) g 33 #[.int .i64 a.number, .int .i64 a.size, .string a.root, .int .i64 a.taken, .string a.takenRoot] ∧ Blk (w'.setCells g' 0 vs) (g + 1) 33 #[.int .i64 b.number, .int .i64 b.size, .string b.root, .int .i64 b.taken, .string b.takenRoot] ∧ Ext w (w'.setCells g' 0 vs) :=
  heads_at (k0.farCells (by omega) vs 0) (k1.farCells (by omega) vs 0) (ext_setCells hw vs 0 w' he)
theorem ev_store {w : World} {g : Nat} {e0 : EvidenceD} (h : Blk w g 40 #[.int .i64 0, .int .i64 0, .int .i64 0, .string ⟨#[]⟩, .int .i64 0, .string ⟨#[]⟩, .int .i64 0, .int .i64 0, .string ⟨#[]⟩, .int .i64 0, .string ⟨#[]⟩]) : Blk (((((((((((w.setCell ⟨g, 0, none⟩ (.int .i64 e0.width)).setCell ⟨g, 1, none⟩ (.int .i64 e0.a.number)).setCell ⟨g, 2, none⟩ (.int .i64 e0.a.size)).setCell ⟨g, 3, none⟩ (.string e0.a.root)).setCell ⟨g, 4, none⟩ (.int .i64 e0.a.taken)).setCell ⟨g, 5, none⟩ (.string e0.a.takenRoot)).setCell ⟨g, 6, none⟩ (.int .i64 e0.b.number)).setCell ⟨g, 7, none⟩ (.int .i64 e0.b.size)).setCell ⟨g, 8, none⟩ (.string e0.b.root)).setCell ⟨g, 9, none⟩ (.int .i64 e0.b.taken)).setCell ⟨g, 10, none⟩ (.string e0.b.takenRoot)) g 40 #[.int .i64 e0.width, .int .i64 e0.a.number, .int .i64 e0.a.size, .string e0.a.root, .int .i64 e0.a.taken, .string e0.a.takenRoot, .int .i64 e0.b.number, .int .i64 e0.b.size, .string e0.b.root, .int .i64 e0.b.taken, .string e0.b.takenRoot] :=
  h.put 0 [.int .i64 e0.width, .int .i64 e0.a.number, .int .i64 e0.a.size, .string e0.a.root, .int .i64 e0.a.taken, .string e0.a.takenRoot, .int .i64 e0.b.number, .int .i64 e0.b.size, .string e0.b.root, .int .i64 e0.b.taken, .string e0.b.takenRoot] #[.int .i64 e0.width, .int .i64 e0.a.number, .int .i64 e0.a.size, .string e0.a.root, .int .i64 e0.a.taken, .string e0.a.takenRoot, .int .i64 e0.b.number, .int .i64 e0.b.size, .string e0.b.root, .int .i64 e0.b.taken, .string e0.b.takenRoot] (by simp) rfl
set_option maxHeartbeats 4000000 in
set_option maxRecDepth 100000 in
theorem lawEvidenceOf_walk (n : Int) (a : HeadD) (b : HeadD) (w : World) (ha : a.Ok) (hb : b.Ok) :
    Calls Try.prog 8 #[.int .i64 n, .agg #[.int .i64 a.number, .int .i64 a.size, .string a.root, .int .i64 a.taken, .string a.takenRoot], .agg #[.int .i64 b.number, .int .i64 b.size, .string b.root, .int .i64 b.taken, .string b.takenRoot]] w fun e w' => e = .returned (.bool true) ∧ Ext w w' := by
  obtain ⟨K0, K1, he⟩ := two_blks w #[.int .i64 a.number, .int .i64 a.size, .string a.root, .int .i64 a.taken, .string a.takenRoot] #[.int .i64 b.number, .int .i64 b.size, .string b.root, .int .i64 b.taken, .string b.takenRoot] 33 33
  by_cases c0 : szL a.lens 1048576 < 0
  · go_enter Try.func8, Try.ntmps8
    obtain ⟨r0, m0⟩ := K0.rules
    obtain ⟨r1, m1⟩ := K1.rules
    go_wp2_with fail
    obtain ⟨g, hg⟩ : ∃ g, g = w.heap.size := ⟨_, rfl⟩
    rw [← hg] at K0 K1
    rw [← hg]
    clear hg
    clear r0 m0 r1 m1
    obtain ⟨r0, m0⟩ := K0.rules
    obtain ⟨r1, m1⟩ := K1.rules
    refine (szHead_any a _ _ ha (by decide) (by decide)).mono ?_
    rintro e w1 ⟨rfl, h1⟩
    replace K0 := K0.ext h1
    replace K1 := K1.ext h1
    replace he := he.next h1
    clear h1
    clear r0 m0 r1 m1
    obtain ⟨r0, m0⟩ := K0.rules
    obtain ⟨r1, m1⟩ := K1.rules
    go_wp2_with fail
    go_ret
    exact ⟨rfl, he⟩
  have u0 : szL a.lens 1048576 ≤ 1048576 := szL_upto (by decide) c0
  by_cases c1 : szL b.lens (szL a.lens 1048576) < 0
  · go_enter Try.func8, Try.ntmps8
    obtain ⟨r0, m0⟩ := K0.rules
    obtain ⟨r1, m1⟩ := K1.rules
    go_wp2_with fail
    obtain ⟨g, hg⟩ : ∃ g, g = w.heap.size := ⟨_, rfl⟩
    rw [← hg] at K0 K1
    rw [← hg]
    clear hg
    clear r0 m0 r1 m1
    obtain ⟨r0, m0⟩ := K0.rules
    obtain ⟨r1, m1⟩ := K1.rules
    refine (szHead_any a _ _ ha (by decide) (by decide)).mono ?_
    rintro e w2 ⟨rfl, h1⟩
    replace K0 := K0.ext h1
    replace K1 := K1.ext h1
    replace he := he.next h1
    clear h1
    clear r0 m0 r1 m1
    obtain ⟨r0, m0⟩ := K0.rules
    obtain ⟨r1, m1⟩ := K1.rules
    go_wp2_with fail
    refine (szHead_any b _ _ hb (by omega) (by omega)).mono ?_
    rintro e w3 ⟨rfl, h1⟩
    replace K0 := K0.ext h1
    replace K1 := K1.ext h1
    replace he := he.next h1
    clear h1
    clear r0 m0 r1 m1
    obtain ⟨r0, m0⟩ := K0.rules
    obtain ⟨r1, m1⟩ := K1.rules
    go_wp2_with fail
    go_ret
    exact ⟨rfl, he⟩
  have u1 : szL b.lens (szL a.lens 1048576) ≤ 1048576 := szL_upto (by exact u0) c1
  go_enter Try.func8, Try.ntmps8
  obtain ⟨r0, m0⟩ := K0.rules
  obtain ⟨r1, m1⟩ := K1.rules
  go_wp2_with fail
  obtain ⟨g, hg⟩ : ∃ g, g = w.heap.size := ⟨_, rfl⟩
  rw [← hg] at K0 K1
  rw [← hg]
  clear hg
  clear r0 m0 r1 m1
  obtain ⟨r0, m0⟩ := K0.rules
  obtain ⟨r1, m1⟩ := K1.rules
  refine (szHead_any a _ _ ha (by decide) (by decide)).mono ?_
  rintro e w4 ⟨rfl, h1⟩
  replace K0 := K0.ext h1
  replace K1 := K1.ext h1
  replace he := he.next h1
  clear h1
  clear r0 m0 r1 m1
  obtain ⟨r0, m0⟩ := K0.rules
  obtain ⟨r1, m1⟩ := K1.rules
  go_wp2_with fail
  refine (szHead_any b _ _ hb (by omega) (by omega)).mono ?_
  rintro e w5 ⟨rfl, h1⟩
  replace K0 := K0.ext h1
  replace K1 := K1.ext h1
  replace he := he.next h1
  clear h1
  clear r0 m0 r1 m1
  obtain ⟨r0, m0⟩ := K0.rules
  obtain ⟨r1, m1⟩ := K1.rules
  obtain ⟨fin, hfin⟩ : ∃ fin, fin = forkB n a b := ⟨_, rfl⟩
  have Hfin := Lib.hid hfin
  obtain ⟨e0, he0⟩ : ∃ e0, e0 = evD n a b fin := ⟨_, rfl⟩
  have He0 := Lib.hid he0
  clear hfin he0
  go_upto_region 8 with fail
  go_cut [8, 9] (fun p ok wx => ∃ (gx : Nat), p = .pointer (some ⟨gx, 0, none⟩) ∧ ok = .bool fin ∧ Blk wx gx 40 #[.int .i64 e0.width, .int .i64 e0.a.number, .int .i64 e0.a.size, .string e0.a.root, .int .i64 e0.a.taken, .string e0.a.takenRoot, .int .i64 e0.b.number, .int .i64 e0.b.size, .string e0.b.root, .int .i64 e0.b.taken, .string e0.b.takenRoot] ∧ HeadsHeld w g a b wx)
  case first =>
    have D0 := K0.drew
    have D1 := K1.drew
    have De := he.drew
    go_region_held3 (fun w' => w'.cell? ⟨g, 0, none⟩ = some (.int .i64 a.number) ∧ w'.cell? ⟨g, 1, none⟩ = some (.int .i64 a.size) ∧ w'.cell? ⟨g, 2, none⟩ = some (.string a.root) ∧ w'.cell? ⟨g, 3, none⟩ = some (.int .i64 a.taken) ∧ w'.cell? ⟨g, 4, none⟩ = some (.string a.takenRoot) ∧ w'.cell? ⟨g + 1, 0, none⟩ = some (.int .i64 b.number) ∧ w'.cell? ⟨g + 1, 1, none⟩ = some (.int .i64 b.size) ∧ w'.cell? ⟨g + 1, 2, none⟩ = some (.string b.root) ∧ w'.cell? ⟨g + 1, 3, none⟩ = some (.int .i64 b.taken) ∧ w'.cell? ⟨g + 1, 4, none⟩ = some (.string b.takenRoot) ∧ Blk w' g 33 #[.int .i64 a.number, .int .i64 a.size, .string a.root, .int .i64 a.taken, .string a.takenRoot] ∧ Blk w' (g + 1) 33 #[.int .i64 b.number, .int .i64 b.size, .string b.root, .int .i64 b.taken, .string b.takenRoot] ∧ Ext w w')
      (first | (with_reducible exact heads_at K0.drew K1.drew he.drew) | (with_reducible exact heads_at (by assumption) (by assumption) (by assumption)) | (with_reducible exact heads_at (K0.alloc _).drew (K1.alloc _).drew (he.new _).drew) | ((try go_split_ands); with_reducible exact heads_alloc _ (by assumption) (by assumption) (by assumption)) | ((try go_split_ands); exact heads_store [.int .i64 e0.width, .int .i64 e0.a.number, .int .i64 e0.a.size, .string e0.a.root, .int .i64 e0.a.taken, .string e0.a.takenRoot, .int .i64 e0.b.number, .int .i64 e0.b.size, .string e0.b.root, .int .i64 e0.b.taken, .string e0.b.takenRoot] (by assumption) (by assumption) (by assumption) (Blk.lt (g := g + 1) (by assumption)) (Below.size (by assumption))))
      (first | (go_at_call_of 26 (.agg #[.int .i64 a.number, .int .i64 a.size, .string a.root, .int .i64 a.taken, .string a.takenRoot] : Value); refine (toHead_any a _).mono ?_; rintro e w' ⟨rfl, h1⟩; go_split_ands; have k0 := Blk.ext (g := g) (by assumption) h1; have k1 := Blk.ext (g := g + 1) (by assumption) h1; have ke := Ext.next (by assumption) h1; (try (have bn := (Blk.new _ 40 #[.int .i64 0, .int .i64 0, .int .i64 0, .string ⟨#[]⟩, .int .i64 0, .string ⟨#[]⟩, .int .i64 0, .int .i64 0, .string ⟨#[]⟩, .int .i64 0, .string ⟨#[]⟩]).drew.ext h1; obtain ⟨bc, bf⟩ := bn.rules)); (try (have bn := (Blk.new _ 40 #[.int .i64 0, .int .i64 0, .int .i64 0, .string ⟨#[]⟩, .int .i64 0, .string ⟨#[]⟩, .int .i64 0, .int .i64 0, .string ⟨#[]⟩, .int .i64 0, .string ⟨#[]⟩]).ext h1; obtain ⟨bc, bf⟩ := bn.rules)); (try (have bn := Blk.ext (t := 40) (cs := #[.int .i64 0, .int .i64 0, .int .i64 0, .string ⟨#[]⟩, .int .i64 0, .string ⟨#[]⟩, .int .i64 0, .int .i64 0, .string ⟨#[]⟩, .int .i64 0, .string ⟨#[]⟩]) (by assumption) h1; obtain ⟨bc, bf⟩ := bn.rules))) | (go_at_call_of 26 (.agg #[.int .i64 b.number, .int .i64 b.size, .string b.root, .int .i64 b.taken, .string b.takenRoot] : Value); refine (toHead_any b _).mono ?_; rintro e w' ⟨rfl, h1⟩; go_split_ands; have k0 := Blk.ext (g := g) (by assumption) h1; have k1 := Blk.ext (g := g + 1) (by assumption) h1; have ke := Ext.next (by assumption) h1; (try (have bn := (Blk.new _ 40 #[.int .i64 0, .int .i64 0, .int .i64 0, .string ⟨#[]⟩, .int .i64 0, .string ⟨#[]⟩, .int .i64 0, .int .i64 0, .string ⟨#[]⟩, .int .i64 0, .string ⟨#[]⟩]).drew.ext h1; obtain ⟨bc, bf⟩ := bn.rules)); (try (have bn := (Blk.new _ 40 #[.int .i64 0, .int .i64 0, .int .i64 0, .string ⟨#[]⟩, .int .i64 0, .string ⟨#[]⟩, .int .i64 0, .int .i64 0, .string ⟨#[]⟩, .int .i64 0, .string ⟨#[]⟩]).ext h1; obtain ⟨bc, bf⟩ := bn.rules)); (try (have bn := Blk.ext (t := 40) (cs := #[.int .i64 0, .int .i64 0, .int .i64 0, .string ⟨#[]⟩, .int .i64 0, .string ⟨#[]⟩, .int .i64 0, .int .i64 0, .string ⟨#[]⟩, .int .i64 0, .string ⟨#[]⟩]) (by assumption) h1; obtain ⟨bc, bf⟩ := bn.rules))) | (go_at_call 34; refine (specEvidenceOf_any n a b _ ha hb).mono ?_; rintro e w' ⟨he1, h1⟩; rw [← Hfin.out, ← He0.out] at he1; subst he1; go_split_ands; have k0 := Blk.ext (g := g) (by assumption) h1; have k1 := Blk.ext (g := g + 1) (by assumption) h1; have ke := Ext.next (by assumption) h1; (try (have bn := (Blk.new _ 40 #[.int .i64 0, .int .i64 0, .int .i64 0, .string ⟨#[]⟩, .int .i64 0, .string ⟨#[]⟩, .int .i64 0, .int .i64 0, .string ⟨#[]⟩, .int .i64 0, .string ⟨#[]⟩]).drew.ext h1; obtain ⟨bc, bf⟩ := bn.rules)); (try (have bn := (Blk.new _ 40 #[.int .i64 0, .int .i64 0, .int .i64 0, .string ⟨#[]⟩, .int .i64 0, .string ⟨#[]⟩, .int .i64 0, .int .i64 0, .string ⟨#[]⟩, .int .i64 0, .string ⟨#[]⟩]).ext h1; obtain ⟨bc, bf⟩ := bn.rules)); (try (have bn := Blk.ext (t := 40) (cs := #[.int .i64 0, .int .i64 0, .int .i64 0, .string ⟨#[]⟩, .int .i64 0, .string ⟨#[]⟩, .int .i64 0, .int .i64 0, .string ⟨#[]⟩, .int .i64 0, .string ⟨#[]⟩]) (by assumption) h1; obtain ⟨bc, bf⟩ := bn.rules))))
    all_goals
      try go_split_ands
      go_wp2_with fail
      go_meet
      case rel =>
        refine ⟨_, rfl, rfl, ?_, ?_⟩
        · first | with_reducible exact Blk.new _ _ _ | with_reducible exact ev_store (by assumption)
        · unfold HeadsHeld
          with_reducible (refine ⟨?_, ?_, ?_, ?_, ?_, ?_, ?_, ?_, ?_, ?_, ?_, ?_, ?_⟩ <;> assumption)
  case rest =>
    obtain ⟨gs, rfl, rfl, bs, hH⟩ := hcut
    clear r0 m0 r1 m1 K0 K1 he
    obtain ⟨-, -, -, -, -, -, -, -, -, -, K0, K1, he⟩ := hH
    obtain ⟨r0, m0⟩ := K0.rules
    obtain ⟨r1, m1⟩ := K1.rules
    go_upto_region 9 with fail
    go_cut [10, 11] (fun p ok wx => ∃ (gx : Nat), p = .pointer (some ⟨gx, 0, none⟩) ∧ ok = .bool fin ∧ Blk wx gx 40 #[.int .i64 e0.width, .int .i64 e0.a.number, .int .i64 e0.a.size, .string e0.a.root, .int .i64 e0.a.taken, .string e0.a.takenRoot, .int .i64 e0.b.number, .int .i64 e0.b.size, .string e0.b.root, .int .i64 e0.b.taken, .string e0.b.takenRoot] ∧ Blk wx gs 40 #[.int .i64 e0.width, .int .i64 e0.a.number, .int .i64 e0.a.size, .string e0.a.root, .int .i64 e0.a.taken, .string e0.a.takenRoot, .int .i64 e0.b.number, .int .i64 e0.b.size, .string e0.b.root, .int .i64 e0.b.taken, .string e0.b.takenRoot] ∧ HeadsHeld w g a b wx)
    case first =>
      have D0 := K0.drew
      have D1 := K1.drew
      have De := he.drew
      have Ds := bs.drew
      go_region_held3 (fun w' => Blk w' gs 40 #[.int .i64 e0.width, .int .i64 e0.a.number, .int .i64 e0.a.size, .string e0.a.root, .int .i64 e0.a.taken, .string e0.a.takenRoot, .int .i64 e0.b.number, .int .i64 e0.b.size, .string e0.b.root, .int .i64 e0.b.taken, .string e0.b.takenRoot] ∧ w'.cell? ⟨g, 0, none⟩ = some (.int .i64 a.number) ∧ w'.cell? ⟨g, 1, none⟩ = some (.int .i64 a.size) ∧ w'.cell? ⟨g, 2, none⟩ = some (.string a.root) ∧ w'.cell? ⟨g, 3, none⟩ = some (.int .i64 a.taken) ∧ w'.cell? ⟨g, 4, none⟩ = some (.string a.takenRoot) ∧ w'.cell? ⟨g + 1, 0, none⟩ = some (.int .i64 b.number) ∧ w'.cell? ⟨g + 1, 1, none⟩ = some (.int .i64 b.size) ∧ w'.cell? ⟨g + 1, 2, none⟩ = some (.string b.root) ∧ w'.cell? ⟨g + 1, 3, none⟩ = some (.int .i64 b.taken) ∧ w'.cell? ⟨g + 1, 4, none⟩ = some (.string b.takenRoot) ∧ Blk w' g 33 #[.int .i64 a.number, .int .i64 a.size, .string a.root, .int .i64 a.taken, .string a.takenRoot] ∧ Blk w' (g + 1) 33 #[.int .i64 b.number, .int .i64 b.size, .string b.root, .int .i64 b.taken, .string b.takenRoot] ∧ Ext w w')
        (first | (with_reducible exact ⟨bs.drew, heads_at K0.drew K1.drew he.drew⟩) | (with_reducible exact ⟨(by assumption), heads_at (by assumption) (by assumption) (by assumption)⟩) | (with_reducible exact ⟨(bs.alloc _).drew, heads_at (K0.alloc _).drew (K1.alloc _).drew (he.new _).drew⟩) | ((try go_split_ands); with_reducible exact ⟨(Blk.alloc (g := gs) (by assumption) _), heads_alloc _ (by assumption) (by assumption) (by assumption)⟩) | ((try go_split_ands); exact ⟨(Blk.farCells (g := gs) (Nat.ne_of_lt (Blk.lt (by assumption))) [.int .i64 e0.width, .int .i64 e0.a.number, .int .i64 e0.a.size, .string e0.a.root, .int .i64 e0.a.taken, .string e0.a.takenRoot, .int .i64 e0.b.number, .int .i64 e0.b.size, .string e0.b.root, .int .i64 e0.b.taken, .string e0.b.takenRoot] 0 _ (by assumption)), heads_store [.int .i64 e0.width, .int .i64 e0.a.number, .int .i64 e0.a.size, .string e0.a.root, .int .i64 e0.a.taken, .string e0.a.takenRoot, .int .i64 e0.b.number, .int .i64 e0.b.size, .string e0.b.root, .int .i64 e0.b.taken, .string e0.b.takenRoot] (by assumption) (by assumption) (by assumption) (Blk.lt (g := g + 1) (by assumption)) (Below.size (by assumption))⟩))
        (first | (go_at_call_of 26 (.agg #[.int .i64 a.number, .int .i64 a.size, .string a.root, .int .i64 a.taken, .string a.takenRoot] : Value); refine (toHead_any a _).mono ?_; rintro e w' ⟨rfl, h1⟩; go_split_ands; have k0 := Blk.ext (g := g) (by assumption) h1; have k1 := Blk.ext (g := g + 1) (by assumption) h1; have ke := Ext.next (by assumption) h1; have ks := Blk.ext (g := gs) (by assumption) h1; (try (have bn := (Blk.new _ 40 #[.int .i64 0, .int .i64 0, .int .i64 0, .string ⟨#[]⟩, .int .i64 0, .string ⟨#[]⟩, .int .i64 0, .int .i64 0, .string ⟨#[]⟩, .int .i64 0, .string ⟨#[]⟩]).drew.ext h1; obtain ⟨bc, bf⟩ := bn.rules)); (try (have bn := (Blk.new _ 40 #[.int .i64 0, .int .i64 0, .int .i64 0, .string ⟨#[]⟩, .int .i64 0, .string ⟨#[]⟩, .int .i64 0, .int .i64 0, .string ⟨#[]⟩, .int .i64 0, .string ⟨#[]⟩]).ext h1; obtain ⟨bc, bf⟩ := bn.rules)); (try (have bn := Blk.ext (t := 40) (cs := #[.int .i64 0, .int .i64 0, .int .i64 0, .string ⟨#[]⟩, .int .i64 0, .string ⟨#[]⟩, .int .i64 0, .int .i64 0, .string ⟨#[]⟩, .int .i64 0, .string ⟨#[]⟩]) (by assumption) h1; obtain ⟨bc, bf⟩ := bn.rules))) | (go_at_call_of 26 (.agg #[.int .i64 b.number, .int .i64 b.size, .string b.root, .int .i64 b.taken, .string b.takenRoot] : Value); refine (toHead_any b _).mono ?_; rintro e w' ⟨rfl, h1⟩; go_split_ands; have k0 := Blk.ext (g := g) (by assumption) h1; have k1 := Blk.ext (g := g + 1) (by assumption) h1; have ke := Ext.next (by assumption) h1; have ks := Blk.ext (g := gs) (by assumption) h1; (try (have bn := (Blk.new _ 40 #[.int .i64 0, .int .i64 0, .int .i64 0, .string ⟨#[]⟩, .int .i64 0, .string ⟨#[]⟩, .int .i64 0, .int .i64 0, .string ⟨#[]⟩, .int .i64 0, .string ⟨#[]⟩]).drew.ext h1; obtain ⟨bc, bf⟩ := bn.rules)); (try (have bn := (Blk.new _ 40 #[.int .i64 0, .int .i64 0, .int .i64 0, .string ⟨#[]⟩, .int .i64 0, .string ⟨#[]⟩, .int .i64 0, .int .i64 0, .string ⟨#[]⟩, .int .i64 0, .string ⟨#[]⟩]).ext h1; obtain ⟨bc, bf⟩ := bn.rules)); (try (have bn := Blk.ext (t := 40) (cs := #[.int .i64 0, .int .i64 0, .int .i64 0, .string ⟨#[]⟩, .int .i64 0, .string ⟨#[]⟩, .int .i64 0, .int .i64 0, .string ⟨#[]⟩, .int .i64 0, .string ⟨#[]⟩]) (by assumption) h1; obtain ⟨bc, bf⟩ := bn.rules))) | (go_at_call 35; refine (implEvidenceOf_any n a b _ ha hb).mono ?_; rintro e w' ⟨he1, h1⟩; rw [← Hfin.out, ← He0.out] at he1; subst he1; go_split_ands; have k0 := Blk.ext (g := g) (by assumption) h1; have k1 := Blk.ext (g := g + 1) (by assumption) h1; have ke := Ext.next (by assumption) h1; have ks := Blk.ext (g := gs) (by assumption) h1; (try (have bn := (Blk.new _ 40 #[.int .i64 0, .int .i64 0, .int .i64 0, .string ⟨#[]⟩, .int .i64 0, .string ⟨#[]⟩, .int .i64 0, .int .i64 0, .string ⟨#[]⟩, .int .i64 0, .string ⟨#[]⟩]).drew.ext h1; obtain ⟨bc, bf⟩ := bn.rules)); (try (have bn := (Blk.new _ 40 #[.int .i64 0, .int .i64 0, .int .i64 0, .string ⟨#[]⟩, .int .i64 0, .string ⟨#[]⟩, .int .i64 0, .int .i64 0, .string ⟨#[]⟩, .int .i64 0, .string ⟨#[]⟩]).ext h1; obtain ⟨bc, bf⟩ := bn.rules)); (try (have bn := Blk.ext (t := 40) (cs := #[.int .i64 0, .int .i64 0, .int .i64 0, .string ⟨#[]⟩, .int .i64 0, .string ⟨#[]⟩, .int .i64 0, .int .i64 0, .string ⟨#[]⟩, .int .i64 0, .string ⟨#[]⟩]) (by assumption) h1; obtain ⟨bc, bf⟩ := bn.rules))))
      all_goals
        try go_split_ands
        go_wp2_with fail
        go_meet
        case rel =>
          refine ⟨_, rfl, rfl, ?_, ?_, ?_⟩
          · first | with_reducible exact Blk.new _ _ _ | with_reducible exact ev_store (by assumption)
          · with_reducible assumption
          · unfold HeadsHeld
            with_reducible (refine ⟨?_, ?_, ?_, ?_, ?_, ?_, ?_, ?_, ?_, ?_, ?_, ?_, ?_⟩ <;> assumption)
    case rest =>
      obtain ⟨gx, rfl, rfl, bx, bs, hH⟩ := hcut
      clear r0 m0 r1 m1 K0 K1 he 
      obtain ⟨-, -, -, -, -, -, -, -, -, -, K0, K1, he⟩ := hH
      obtain ⟨r0, m0⟩ := K0.rules
      obtain ⟨r1, m1⟩ := K1.rules
      obtain ⟨r2, m2⟩ := bs.rules
      obtain ⟨r3, m3⟩ := bx.rules
      cases fin
      all_goals
        go_wp2_with fail
        refine (eqEvidence_same e0 _).mono ?_
        rintro e w9 ⟨rfl, h1⟩
        replace he := he.next h1
        go_wp2_with fail
        go_ret
        exact ⟨rfl, he⟩

set_option maxRecDepth 100000 in
theorem EvidenceOf_holds : Rows.FnExactEvidenceOfSaid :=
  lawOver (p := Try.pinned) (c := Rows.fnExactEvidenceOfRow) (s := Rows.fnExactEvidenceOfSpec) 8 Try.f8 4
    own laidOut (by kernel_rfl) (by kernel_rfl) rfl rfl Try.underlying4
    (fun H ds h => by match ds, h with | [d0, d1, d2], _ => rfl)
    rfl rfl rfl rfl rfl rfl rfl ⟨rfl, rfl, rfl, rfl, rfl⟩ rfl rfl rfl rfl rfl (by kernel_rfl) Try.func8 (by kernel_rfl)
    (of_decide_eq_true (by kernel_rfl)) (by unfold Func.isWrapper; rw [if_neg (of_decide_eq_false (by kernel_rfl))]; exact ⟨rfl, rfl⟩)
    rfl rfl (fun _ _ => rfl) rfl rfl rfl rfl
    (fun os started H enc => ChangeSpec.witness6 (enc := enc) (C := Try.checked) false ⟨#[], #[.int .i64 0, .agg #[.int .i64 0, .int .i64 0, .string ⟨#[]⟩, .int .i64 0, .string ⟨#[]⟩], .agg #[.int .i64 0, .int .i64 0, .string ⟨#[]⟩, .int .i64 0, .string ⟨#[]⟩]], []⟩ 20 (by kernel_rfl) (by kernel_rfl) (by kernel_rfl) (by kernel_rfl))
    (fun W args h => by
      have hs := h.size
      obtain ⟨l⟩ := args
      match l, hs with
      | [v0, v1, v2], _ =>
        obtain ⟨base0, n0, o0, t0⟩ := h.arg 0 3 v0 rfl rfl
        obtain ⟨base1, n1, o1, t1⟩ := h.arg 1 33 v1 rfl rfl
        obtain ⟨base2, n2, o2, t2⟩ := h.arg 2 33 v2 rfl rfl
        obtain ⟨n, rfl⟩ := okWide_int Try.underlying3 o0
        obtain ⟨cs1, rfl, _⟩ := okWide_struct Try.underlying33 o1
        obtain ⟨a, e1, ha⟩ := HeadD.typed t1
        obtain rfl : cs1 = a.cells.toArray := by have h2 : cs1.toList = a.cells := e1; rw [← h2]
        obtain ⟨cs2, rfl, _⟩ := okWide_struct Try.underlying33 o2
        obtain ⟨b, e2, hb⟩ := HeadD.typed t2
        obtain rfl : cs2 = b.cells.toArray := by have h2 : cs2.toList = b.cells := e2; rw [← h2]
        exact lawEvidenceOf_walk n a b W ha hb)
#print axioms EvidenceOf_holds
end Go.Proofs.Ytaicjimppcledaa
