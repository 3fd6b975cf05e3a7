/-
  EvidenceOf: walks. Written by program (gen_evof.py). No condition.
-/
import Derived.Test.YteaphajagmbllaaEvidenceOps
namespace Go.Proofs.Yteaphajagmbllaa
open Go.RowKit
set_option linter.unusedVariables false

def noHead : HeadD := ⟨0, 0, ⟨#[]⟩, 0, ⟨#[]⟩⟩
def evD (n : Int) (a b : HeadD) (ok : Bool) : EvidenceD := if ok then ⟨n, a, b⟩ else ⟨0, noHead, noHead⟩
theorem evD_yes (n : Int) (a b : HeadD) : evD n a b true = ⟨n, a, b⟩ := rfl
theorem evD_no (n : Int) (a b : HeadD) : evD n a b false = ⟨0, noHead, noHead⟩ := rfl
theorem three_blks (w : World) (x2 x3 x4 : Array Value) (t2 t3 t4 : TypeId) :
    Blk (((w.alloc (.cells x2 t2)).alloc (.cells x3 t3)).alloc (.cells x4 t4)) w.heap.size t2 x2 ∧ Blk (((w.alloc (.cells x2 t2)).alloc (.cells x3 t3)).alloc (.cells x4 t4)) (w.heap.size + 1) t3 x3 ∧ Blk (((w.alloc (.cells x2 t2)).alloc (.cells x3 t3)).alloc (.cells x4 t4)) (w.heap.size + 1 + 1) t4 x4 ∧ Ext w (((w.alloc (.cells x2 t2)).alloc (.cells x3 t3)).alloc (.cells x4 t4)) := by
  obtain ⟨h2, h3, he⟩ := two_blks w x2 x3 t2 t3
  have h4 : ((w.alloc (.cells x2 t2)).alloc (.cells x3 t3)).heap.size = w.heap.size + 1 + 1 := by simp
  refine ⟨h2.alloc _, h3.alloc _, ?_, Ext.new he _⟩
  have := Blk.new ((w.alloc (.cells x2 t2)).alloc (.cells x3 t3)) t4 x4; rwa [h4] at this
set_option maxHeartbeats 2000000 in
theorem implEvidenceOf_any (n : Int) (a b : HeadD) (w : World) (ha : a.Ok) (hb : b.Ok) : Calls Try.prog 17 #[.int .i64 n, .agg #[.int .i64 a.number, .int .i64 a.size, .string a.root, .int .i64 a.taken, .string a.takenRoot], .agg #[.int .i64 b.number, .int .i64 b.size, .string b.root, .int .i64 b.taken, .string b.takenRoot]] w fun e w' => e = .returned (.tuple #[.agg #[.int .i64 (evD n a b (forkB n a b)).width, .int .i64 (evD n a b (forkB n a b)).a.number, .int .i64 (evD n a b (forkB n a b)).a.size, .string (evD n a b (forkB n a b)).a.root, .int .i64 (evD n a b (forkB n a b)).a.taken, .string (evD n a b (forkB n a b)).a.takenRoot, .int .i64 (evD n a b (forkB n a b)).b.number, .int .i64 (evD n a b (forkB n a b)).b.size, .string (evD n a b (forkB n a b)).b.root, .int .i64 (evD n a b (forkB n a b)).b.taken, .string (evD n a b (forkB n a b)).b.takenRoot], .bool (forkB n a b)]) ∧ Ext w w' := by
  obtain ⟨K0, K1, K2, he⟩ := three_blks w #[.int .i64 a.number, .int .i64 a.size, .string a.root, .int .i64 a.taken, .string a.takenRoot] #[.int .i64 b.number, .int .i64 b.size, .string b.root, .int .i64 b.taken, .string b.takenRoot] #[.int .i64 0, .int .i64 0, .int .i64 0, .string ⟨#[]⟩, .int .i64 0, .string ⟨#[]⟩, .int .i64 0, .int .i64 0, .string ⟨#[]⟩, .int .i64 0, .string ⟨#[]⟩] 42 42 47
  obtain ⟨fin, hfin⟩ : ∃ fin, fin = forkB n a b := ⟨_, rfl⟩
  rw [← hfin]
  have Hfin := Lib.hid hfin
  clear hfin
  obtain ⟨r0, m0⟩ := K0.rules
  obtain ⟨r1, m1⟩ := K1.rules
  go_enter Try.func17, Try.ntmps17
  go_wp2_with fail
  obtain ⟨g, hg⟩ : ∃ g, g = w.heap.size := ⟨_, rfl⟩
  have Hg : w.heap.size ≤ g + 1 + 1 := by omega
  rw [← hg] at K0 K1 K2
  rw [← hg]
  clear hg r0 m0 r1 m1
  refine (implForkOf_any n a b _ ha hb).mono ?_
  rintro e w1 ⟨he1, h1⟩
  rw [← Hfin.out] at he1
  subst he1
  replace K0 := K0.ext h1; replace K1 := K1.ext h1; replace K2 := K2.ext h1; replace he := he.next h1
  clear h1
  obtain ⟨r0, m0⟩ := K0.rules
  obtain ⟨r1, m1⟩ := K1.rules
  obtain ⟨r2, m2⟩ := K2.rules
  cases fin
  · go_wp2_with fail
    have hz := K2.put 0 [.int .i64 0, .int .i64 0, .int .i64 0, .string ⟨#[]⟩, .int .i64 0, .string ⟨#[]⟩, .int .i64 0, .int .i64 0, .string ⟨#[]⟩, .int .i64 0, .string ⟨#[]⟩] #[.int .i64 0, .int .i64 0, .int .i64 0, .string ⟨#[]⟩, .int .i64 0, .string ⟨#[]⟩, .int .i64 0, .int .i64 0, .string ⟨#[]⟩, .int .i64 0, .string ⟨#[]⟩] (by decide) rfl
    have hx := ext_setCells (W := w) (g := g + 1 + 1) Hg [.int .i64 0, .int .i64 0, .int .i64 0, .string ⟨#[]⟩, .int .i64 0, .string ⟨#[]⟩, .int .i64 0, .int .i64 0, .string ⟨#[]⟩, .int .i64 0, .string ⟨#[]⟩] 0 w1 he
    exact ret_row_tmp rfl rfl hz Try.underlying47 rfl (by kernel_rfl) rfl ⟨rfl, hx⟩
  · go_wp2_with fail
    have hz := K2.put 0 [.int .i64 n, .int .i64 a.number, .int .i64 a.size, .string a.root, .int .i64 a.taken, .string a.takenRoot, .int .i64 b.number, .int .i64 b.size, .string b.root, .int .i64 b.taken, .string b.takenRoot] #[.int .i64 n, .int .i64 a.number, .int .i64 a.size, .string a.root, .int .i64 a.taken, .string a.takenRoot, .int .i64 b.number, .int .i64 b.size, .string b.root, .int .i64 b.taken, .string b.takenRoot] (by simp) rfl
    have hx := ext_setCells (W := w) (g := g + 1 + 1) Hg [.int .i64 n, .int .i64 a.number, .int .i64 a.size, .string a.root, .int .i64 a.taken, .string a.takenRoot, .int .i64 b.number, .int .i64 b.size, .string b.root, .int .i64 b.taken, .string b.takenRoot] 0 w1 he
    exact ret_row_tmp rfl rfl hz Try.underlying47 rfl (by kernel_rfl) rfl ⟨rfl, hx⟩
end Go.Proofs.Yteaphajagmbllaa
