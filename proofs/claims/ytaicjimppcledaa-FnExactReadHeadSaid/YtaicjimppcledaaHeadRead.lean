/-
  Heads that are read: walks. Written by program (gen_headread.py). No condition.
-/
import Derived.Test.YtaicjimppcledaaHeadOps
import Derived.Test.YtaicjimppcledaaReader
namespace Go.Proofs.Ytaicjimppcledaa
open Go.RowKit
set_option linter.unusedVariables false

theorem ExtBut.alloc_ {g : Nat} {a b : World} (h : ExtBut g a b) (o : Obj) : ExtBut g a (b.alloc o) :=
  ⟨h.os, h.tape, h.output, Nat.le_trans h.size (by simp), fun i hi hne => (Below.heap_alloc b o i (Nat.lt_of_lt_of_le hi h.size)).trans (h.block i hi hne)⟩
theorem ExtBut.setNew {g : Nat} {a b : World} (h : ExtBut g a b) {p : Addr} (hp : a.heap.size ≤ p.block) (u : Value) : ExtBut g a (b.setCell p u) :=
  ⟨h.os, h.tape, h.output, by simpa [World.setCell] using h.size, fun i hi hne => (Below.heap_setCell b p u i (by omega)).trans (h.block i hi hne)⟩
theorem ExtBut.setCellsNew {g q : Nat} {a : World} (hq : a.heap.size ≤ q) : ∀ (vs : List Value) (o : Nat) (b : World), ExtBut g a b → ExtBut g a (b.setCells q o vs)
  | [], _, _, h => h
  | v :: vs, o, b, h => ExtBut.setCellsNew hq vs (o + 1) _ (ExtBut.setNew h (p := ⟨q, o, none⟩) hq v)
theorem rdTake_leT (T : ByteArray) (r : Rd) (n : Nat) : (rdTake T r n).size ≤ T.size := by
  unfold rdTake
  split
  · exact Nat.zero_le _
  · rw [ByteArray.size_extract]; omega
def rh1 (T : ByteArray) (r : Rd) : Rd := rdNext T r 2
def rh2 (T : ByteArray) (r : Rd) : Rd := rdNext T (rh1 T r) 2
def rh3 (T : ByteArray) (r : Rd) (m : Nat) : Rd := rdNext T (rh2 T r) m
def rh4 (T : ByteArray) (r : Rd) (m : Nat) : Rd := rdNext T (rh3 T r m) 2
def rh5 (T : ByteArray) (r : Rd) (m : Nat) : Rd := rdNext T (rh4 T r m) m
theorem rh1_pos {T : ByteArray} {r : Rd} (h : r.pos ≤ T.size) : (rh1 T r).pos ≤ T.size := rdNext_pos _ _ _ h
theorem rh2_pos {T : ByteArray} {r : Rd} (h : r.pos ≤ T.size) : (rh2 T r).pos ≤ T.size := rdNext_pos _ _ _ (rh1_pos h)
theorem rh3_pos {T : ByteArray} {r : Rd} (m : Nat) (h : r.pos ≤ T.size) : (rh3 T r m).pos ≤ T.size := rdNext_pos _ _ _ (rh2_pos h)
theorem rh4_pos {T : ByteArray} {r : Rd} (m : Nat) (h : r.pos ≤ T.size) : (rh4 T r m).pos ≤ T.size := rdNext_pos _ _ _ (rh3_pos m h)
theorem rh5_pos {T : ByteArray} {r : Rd} (m : Nat) (h : r.pos ≤ T.size) : (rh5 T r m).pos ≤ T.size := rdNext_pos _ _ _ (rh4_pos m h)
/-- What is read of a head. -/
def rhD (T : ByteArray) (r : Rd) (m : Nat) : HeadD := ⟨(beNum (rdTake T r 2) : Int), (beNum (rdTake T (rh1 T r) 2) : Int), rdTake T (rh2 T r) m, (beNum (rdTake T (rh3 T r m) 2) : Int), rdTake T (rh4 T r m) m⟩
theorem rhD_ok (T : ByteArray) (r : Rd) (m : Nat) (hT : T.size ≤ 1099511627776) : (rhD T r m).Ok := by
  have k1 := beNum_le (rdTake T r 2) (Nat.le_trans (rdTake_size _ _ _) (by decide))
  have k2 := beNum_le (rdTake T (rh1 T r) 2) (Nat.le_trans (rdTake_size _ _ _) (by decide))
  have k3 := rdTake_leT T (rh2 T r) m
  have k4 := beNum_le (rdTake T (rh3 T r m) 2) (Nat.le_trans (rdTake_size _ _ _) (by decide))
  have k5 := rdTake_leT T (rh4 T r m) m
  refine ⟨?_, ?_, ?_, ?_, ?_⟩
  · show (Lit.int .i64 (beNum (rdTake T r 2) : Int)).wf = true
    simp [Lit.wf, IntKind.min, IntKind.max, IntKind.signed, IntKind.bits]; omega
  · show (Lit.int .i64 (beNum (rdTake T (rh1 T r) 2) : Int)).wf = true
    simp [Lit.wf, IntKind.min, IntKind.max, IntKind.signed, IntKind.bits]; omega
  · unfold maxLen; show (rdTake T (rh2 T r) m).size ≤ _; omega
  · show (Lit.int .i64 (beNum (rdTake T (rh3 T r m) 2) : Int)).wf = true
    simp [Lit.wf, IntKind.min, IntKind.max, IntKind.signed, IntKind.bits]; omega
  · unfold maxLen; show (rdTake T (rh4 T r m) m).size ≤ _; omega
set_option maxHeartbeats 4000000 in
set_option maxRecDepth 100000 in
theorem rHead_any (g : Nat) (T : ByteArray) (r : Rd) (m : Nat) (w : World) (hB : Blk w g 105 (rdCells T r)) (hp : r.pos ≤ T.size) (hT : T.size ≤ 1099511627776) (hm : m ≤ 1000) :
    Calls Try.prog 73 #[.pointer (some ⟨g, 0, none⟩), .int .i64 (m : Int)] w fun e w' => e = .returned (.agg #[.int .i64 (rhD T r m).number, .int .i64 (rhD T r m).size, .string (rhD T r m).root, .int .i64 (rhD T r m).taken, .string (rhD T r m).takenRoot]) ∧ Blk w' g 105 (rdCells T (rh5 T r m)) ∧ ExtBut g w w' := by
  have hgl := hB.lt
  have hZ := Blk.new w 38 #[.int .i64 0, .int .i64 0, .string ⟨#[]⟩, .int .i64 0, .string ⟨#[]⟩]
  replace hB := hB.alloc (.cells #[.int .i64 0, .int .i64 0, .string ⟨#[]⟩, .int .i64 0, .string ⟨#[]⟩] 38)
  have hx := (ExtBut.refl g w).alloc_ (.cells #[.int .i64 0, .int .i64 0, .string ⟨#[]⟩, .int .i64 0, .string ⟨#[]⟩] 38)
  go_enter Try.func73, Try.ntmps73
  go_wp2_with fail
  refine (number_any g T r 2 _ hB hp hT (by decide)).mono ?_
  rintro e w1 ⟨rfl, hB, hy⟩
  replace hZ := hZ.extBut hy (by omega)
  replace hx := hx.next hy
  clear hy
  have hsz := hZ.lt
  go_wp2_with fail
  have hgl1 := hB.lt
  have hD := Blk.new w1 38 #[.int .i64 (beNum (rdTake T r 2) : Int), .int .i64 0, .string ⟨#[]⟩, .int .i64 0, .string ⟨#[]⟩]
  replace hZ := hZ.alloc (.cells #[.int .i64 (beNum (rdTake T r 2) : Int), .int .i64 0, .string ⟨#[]⟩, .int .i64 0, .string ⟨#[]⟩] 38)
  replace hB := hB.alloc (.cells #[.int .i64 (beNum (rdTake T r 2) : Int), .int .i64 0, .string ⟨#[]⟩, .int .i64 0, .string ⟨#[]⟩] 38)
  replace hx := hx.alloc_ (.cells #[.int .i64 (beNum (rdTake T r 2) : Int), .int .i64 0, .string ⟨#[]⟩, .int .i64 0, .string ⟨#[]⟩] 38)
  obtain ⟨g2, hg2⟩ : ∃ g2, g2 = w1.heap.size := ⟨_, rfl⟩
  rw [← hg2] at hD hsz hgl1
  rw [← hg2]
  have hq1 : ¬ w.heap.size = g2 := by omega
  have hq2 : ¬ g = g2 := by omega
  clear hg2
  refine (number_any g T (rh1 T r) 2 _ hB (rh1_pos hp) hT (by decide)).mono ?_
  rintro e w2 ⟨rfl, hB, hy⟩
  replace hZ := hZ.extBut hy (by omega)
  replace hD := hD.extBut hy (by omega)
  replace hx := hx.next hy
  clear hy
  obtain ⟨hc, hf⟩ := hD.rules
  go_wp2_with fail
  clear hc hf
  replace hZ := hZ.far (p := ⟨g2, 1, none⟩) hq1 (.int .i64 (beNum (rdTake T (rh1 T r) 2) : Int))
  replace hB := hB.far (p := ⟨g2, 1, none⟩) hq2 (.int .i64 (beNum (rdTake T (rh1 T r) 2) : Int))
  replace hD := hD.set_ 1 (.int .i64 (beNum (rdTake T (rh1 T r) 2) : Int))
  replace hx : ExtBut g w _ := hx.setNew (p := ⟨g2, 1, none⟩) (by show w.heap.size ≤ g2; omega) (.int .i64 (beNum (rdTake T (rh1 T r) 2) : Int))
  refine (bytes_any g T (rh2 T r) m _ hB (rh2_pos hp) hT (by omega)).mono ?_
  rintro e w3 ⟨rfl, hB, hy⟩
  replace hZ := hZ.extBut hy (by omega)
  replace hD := hD.extBut hy (by omega)
  replace hx := hx.next hy
  clear hy
  obtain ⟨hc, hf⟩ := hD.rules
  go_wp2_with fail
  clear hc hf
  replace hZ := hZ.far (p := ⟨g2, 2, none⟩) hq1 (.string (rdTake T (rh2 T r) m))
  replace hB := hB.far (p := ⟨g2, 2, none⟩) hq2 (.string (rdTake T (rh2 T r) m))
  replace hD := hD.set_ 2 (.string (rdTake T (rh2 T r) m))
  replace hx : ExtBut g w _ := hx.setNew (p := ⟨g2, 2, none⟩) (by show w.heap.size ≤ g2; omega) (.string (rdTake T (rh2 T r) m))
  refine (number_any g T (rh3 T r m) 2 _ hB (rh3_pos m hp) hT (by decide)).mono ?_
  rintro e w4 ⟨rfl, hB, hy⟩
  replace hZ := hZ.extBut hy (by omega)
  replace hD := hD.extBut hy (by omega)
  replace hx := hx.next hy
  clear hy
  obtain ⟨hc, hf⟩ := hD.rules
  go_wp2_with fail
  clear hc hf
  replace hZ := hZ.far (p := ⟨g2, 3, none⟩) hq1 (.int .i64 (beNum (rdTake T (rh3 T r m) 2) : Int))
  replace hB := hB.far (p := ⟨g2, 3, none⟩) hq2 (.int .i64 (beNum (rdTake T (rh3 T r m) 2) : Int))
  replace hD := hD.set_ 3 (.int .i64 (beNum (rdTake T (rh3 T r m) 2) : Int))
  replace hx : ExtBut g w _ := hx.setNew (p := ⟨g2, 3, none⟩) (by show w.heap.size ≤ g2; omega) (.int .i64 (beNum (rdTake T (rh3 T r m) 2) : Int))
  refine (bytes_any g T (rh4 T r m) m _ hB (rh4_pos m hp) hT (by omega)).mono ?_
  rintro e w5 ⟨rfl, hB, hy⟩
  replace hZ := hZ.extBut hy (by omega)
  replace hD := hD.extBut hy (by omega)
  replace hx := hx.next hy
  clear hy
  obtain ⟨hc, hf⟩ := hD.rules
  go_upto_region 6 with fail
  clear hc hf
  replace hZ := hZ.far (p := ⟨g2, 4, none⟩) hq1 (.string (rdTake T (rh4 T r m) m))
  replace hB := hB.far (p := ⟨g2, 4, none⟩) hq2 (.string (rdTake T (rh4 T r m) m))
  replace hD := hD.set_ 4 (.string (rdTake T (rh4 T r m) m))
  replace hx : ExtBut g w _ := hx.setNew (p := ⟨g2, 4, none⟩) (by show w.heap.size ≤ g2; omega) (.string (rdTake T (rh4 T r m) m))
  replace hD : Blk _ g2 38 #[.int .i64 (rhD T r m).number, .int .i64 (rhD T r m).size, .string (rhD T r m).root, .int .i64 (rhD T r m).taken, .string (rhD T r m).takenRoot] := hD
  replace hB : Blk _ _ 105 (rdCells T (rh5 T r m)) := hB
  generalize w5.setCell ⟨g2, 4, none⟩ (.string (rdTake T (rh4 T r m) m)) = w9 at *
  obtain ⟨hc, hf⟩ := hD.rules
  obtain ⟨hzc, hzf⟩ := hZ.rules
  go_wp2_with fail
  have hz := hZ.put 0 (rhD T r m).cells (rhD T r m).cells.toArray (by simp [HeadD.cells]) rfl
  have hb := hB.farCells (g' := w.heap.size) (by omega) (rhD T r m).cells 0
  have hy := ExtBut.setCellsNew (a := w) (q := w.heap.size) (Nat.le_refl _) (rhD T r m).cells 0 w9 hx
  change bodyPost _ _ _ _ _ (w9.setCells w.heap.size 0 (rhD T r m).cells)
  generalize w9.setCells w.heap.size 0 (rhD T r m).cells = w10 at *
  clear hc hf hzc hzf hZ hB hx hD
  refine ret_row rfl rfl hz Try.underlying38 rfl (by kernel_rfl) rfl ?_
  exact ⟨rfl, hb, hy⟩
set_option maxHeartbeats 4000000 in
set_option maxRecDepth 100000 in
theorem l10Read_any (g : Nat) (T : ByteArray) (r : Rd) (m : Nat) (w : World) (hB : Blk w g 101 (rdCells T r)) (hp : r.pos ≤ T.size) (hT : T.size ≤ 1099511627776) (hm : m ≤ 1000) :
    Calls Try.prog 71 #[.int .i64 (m : Int), .pointer (some ⟨g, 0, none⟩)] w fun e w' => e = .returned (.agg #[.int .i64 (rhD T r m).number, .int .i64 (rhD T r m).size, .string (rhD T r m).root, .int .i64 (rhD T r m).taken, .string (rhD T r m).takenRoot]) ∧ Blk w' g 101 (rdCells T (rh5 T r m)) ∧ ExtBut g w w' := by
  have hgl := hB.lt
  have hZ := (Blk.new w 38 #[.int .i64 0, .int .i64 0, .string ⟨#[]⟩, .int .i64 0, .string ⟨#[]⟩]).alloc (.cells #[.int .i64 0, .int .i64 0, .string ⟨#[]⟩, .int .i64 0, .string ⟨#[]⟩] 38)
  have hD := Blk.new (w.alloc (.cells #[.int .i64 0, .int .i64 0, .string ⟨#[]⟩, .int .i64 0, .string ⟨#[]⟩] 38)) 38 #[.int .i64 0, .int .i64 0, .string ⟨#[]⟩, .int .i64 0, .string ⟨#[]⟩]
  simp only [World.size_alloc] at hD
  replace hB := (hB.alloc (.cells #[.int .i64 0, .int .i64 0, .string ⟨#[]⟩, .int .i64 0, .string ⟨#[]⟩] 38)).alloc (.cells #[.int .i64 0, .int .i64 0, .string ⟨#[]⟩, .int .i64 0, .string ⟨#[]⟩] 38)
  have hx := ((ExtBut.refl g w).alloc_ (.cells #[.int .i64 0, .int .i64 0, .string ⟨#[]⟩, .int .i64 0, .string ⟨#[]⟩] 38)).alloc_ (.cells #[.int .i64 0, .int .i64 0, .string ⟨#[]⟩, .int .i64 0, .string ⟨#[]⟩] 38)
  go_enter Try.func71, Try.ntmps71
  go_wp2_with fail
  refine (l03Read_any g T r 2 _ hB hp hT (by decide)).mono ?_
  rintro e w1 ⟨rfl, hB, hy⟩
  replace hZ := hZ.extBut hy (by omega)
  replace hD := hD.extBut hy (by omega)
  replace hx := hx.next hy
  clear hy
  obtain ⟨g2, hg2⟩ : ∃ g2, g2 = w.heap.size + 1 := ⟨_, rfl⟩
  rw [← hg2] at hD
  rw [← hg2]
  have hsz : w.heap.size < g2 := by omega
  have hq1 : ¬ w.heap.size = g2 := by omega
  have hq2 : ¬ g = g2 := by omega
  clear hg2
  obtain ⟨hc, hf⟩ := hD.rules
  go_wp2_with fail
  clear hc hf
  replace hZ := hZ.far (p := ⟨g2, 0, none⟩) hq1 (.int .i64 (beNum (rdTake T r 2) : Int))
  replace hB := hB.far (p := ⟨g2, 0, none⟩) hq2 (.int .i64 (beNum (rdTake T r 2) : Int))
  replace hD := hD.set_ 0 (.int .i64 (beNum (rdTake T r 2) : Int))
  replace hx : ExtBut g w _ := hx.setNew (p := ⟨g2, 0, none⟩) (by show w.heap.size ≤ g2; omega) (.int .i64 (beNum (rdTake T r 2) : Int))
  refine (l03Read_any g T (rh1 T r) 2 _ hB (rh1_pos hp) hT (by decide)).mono ?_
  rintro e w2 ⟨rfl, hB, hy⟩
  replace hZ := hZ.extBut hy (by omega)
  replace hD := hD.extBut hy (by omega)
  replace hx := hx.next hy
  clear hy
  obtain ⟨hc, hf⟩ := hD.rules
  go_wp2_with fail
  clear hc hf
  replace hZ := hZ.far (p := ⟨g2, 1, none⟩) hq1 (.int .i64 (beNum (rdTake T (rh1 T r) 2) : Int))
  replace hB := hB.far (p := ⟨g2, 1, none⟩) hq2 (.int .i64 (beNum (rdTake T (rh1 T r) 2) : Int))
  replace hD := hD.set_ 1 (.int .i64 (beNum (rdTake T (rh1 T r) 2) : Int))
  replace hx : ExtBut g w _ := hx.setNew (p := ⟨g2, 1, none⟩) (by show w.heap.size ≤ g2; omega) (.int .i64 (beNum (rdTake T (rh1 T r) 2) : Int))
  refine (l03Take_any g T (rh2 T r) m _ hB (rh2_pos hp) hT (by omega)).mono ?_
  rintro e w3 ⟨rfl, hB, hy⟩
  replace hZ := hZ.extBut hy (by omega)
  replace hD := hD.extBut hy (by omega)
  replace hx := hx.next hy
  clear hy
  obtain ⟨hc, hf⟩ := hD.rules
  go_wp2_with fail
  clear hc hf
  replace hZ := hZ.far (p := ⟨g2, 2, none⟩) hq1 (.string (rdTake T (rh2 T r) m))
  replace hB := hB.far (p := ⟨g2, 2, none⟩) hq2 (.string (rdTake T (rh2 T r) m))
  replace hD := hD.set_ 2 (.string (rdTake T (rh2 T r) m))
  replace hx : ExtBut g w _ := hx.setNew (p := ⟨g2, 2, none⟩) (by show w.heap.size ≤ g2; omega) (.string (rdTake T (rh2 T r) m))
  refine (l03Read_any g T (rh3 T r m) 2 _ hB (rh3_pos m hp) hT (by decide)).mono ?_
  rintro e w4 ⟨rfl, hB, hy⟩
  replace hZ := hZ.extBut hy (by omega)
  replace hD := hD.extBut hy (by omega)
  replace hx := hx.next hy
  clear hy
  obtain ⟨hc, hf⟩ := hD.rules
  go_wp2_with fail
  clear hc hf
  replace hZ := hZ.far (p := ⟨g2, 3, none⟩) hq1 (.int .i64 (beNum (rdTake T (rh3 T r m) 2) : Int))
  replace hB := hB.far (p := ⟨g2, 3, none⟩) hq2 (.int .i64 (beNum (rdTake T (rh3 T r m) 2) : Int))
  replace hD := hD.set_ 3 (.int .i64 (beNum (rdTake T (rh3 T r m) 2) : Int))
  replace hx : ExtBut g w _ := hx.setNew (p := ⟨g2, 3, none⟩) (by show w.heap.size ≤ g2; omega) (.int .i64 (beNum (rdTake T (rh3 T r m) 2) : Int))
  refine (l03Take_any g T (rh4 T r m) m _ hB (rh4_pos m hp) hT (by omega)).mono ?_
  rintro e w5 ⟨rfl, hB, hy⟩
  replace hZ := hZ.extBut hy (by omega)
  replace hD := hD.extBut hy (by omega)
  replace hx := hx.next hy
  clear hy
  obtain ⟨hc, hf⟩ := hD.rules
  go_upto_region 7 with fail
  clear hc hf
  replace hZ := hZ.far (p := ⟨g2, 4, none⟩) hq1 (.string (rdTake T (rh4 T r m) m))
  replace hB := hB.far (p := ⟨g2, 4, none⟩) hq2 (.string (rdTake T (rh4 T r m) m))
  replace hD := hD.set_ 4 (.string (rdTake T (rh4 T r m) m))
  replace hx : ExtBut g w _ := hx.setNew (p := ⟨g2, 4, none⟩) (by show w.heap.size ≤ g2; omega) (.string (rdTake T (rh4 T r m) m))
  replace hD : Blk _ g2 38 #[.int .i64 (rhD T r m).number, .int .i64 (rhD T r m).size, .string (rhD T r m).root, .int .i64 (rhD T r m).taken, .string (rhD T r m).takenRoot] := hD
  replace hB : Blk _ _ 101 (rdCells T (rh5 T r m)) := hB
  generalize w5.setCell ⟨g2, 4, none⟩ (.string (rdTake T (rh4 T r m) m)) = w9 at *
  obtain ⟨hc, hf⟩ := hD.rules
  obtain ⟨hzc, hzf⟩ := hZ.rules
  go_wp2_with fail
  have hz := hZ.put 0 (rhD T r m).cells (rhD T r m).cells.toArray (by simp [HeadD.cells]) rfl
  have hb := hB.farCells (g' := w.heap.size) (by omega) (rhD T r m).cells 0
  have hy := ExtBut.setCellsNew (a := w) (q := w.heap.size) (Nat.le_refl _) (rhD T r m).cells 0 w9 hx
  change bodyPost _ _ _ _ _ (w9.setCells w.heap.size 0 (rhD T r m).cells)
  generalize w9.setCells w.heap.size 0 (rhD T r m).cells = w10 at *
  clear hc hf hzc hzf hZ hB hx hD
  refine ret_row rfl rfl hz Try.underlying38 rfl (by kernel_rfl) rfl ?_
  exact ⟨rfl, hb, hy⟩
end Go.Proofs.Ytaicjimppcledaa
