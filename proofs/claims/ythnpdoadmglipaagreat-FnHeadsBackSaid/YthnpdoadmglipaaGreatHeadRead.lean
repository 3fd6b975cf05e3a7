/-
  Hashes; SameB; Reopen0; HeadRead: No condition.
-/
import Derived.Test.YthnpdoadmglipaaGreatBroker0
import Derived.Test.YthnpdoadmglipaaGreatFrm
import Derived.Test.YthnpdoadmglipaaGreatDisk0
import Derived.Test.YthnpdoadmglipaaGreatBunch
import Derived.BigQuiet
import Derived.Test.YthnpdoadmglipaaGreatFramesLaw
import Derived.Test.YthnpdoadmglipaaGreatHeadOps
import Derived.Test.YthnpdoadmglipaaGreatReader
namespace Go.Proofs.YthnpdoadmglipaaGreat
set_option maxHeartbeats 2000000
set_option maxRecDepth 100000
set_option linter.unusedSimpArgs false
open Go.RowKit
set_option linter.unusedVariables false
theorem rec_at {l : List ReceiptD} {w : World} {b off : Nat} {k : Nat} {d : ReceiptD} (hc : ∀ j u, (l.flatMap ReceiptD.cells)[k * 3 + j]? = some u → w.cell? ⟨b, off + k * 3 + j, none⟩ = some u) (hd : l[k]? = some d) :
 w.cell? ⟨b, off + k * 3, none⟩ = some (.string d.reader) ∧ w.cell? ⟨b, off + k * 3 + 1, none⟩ = some (.string d.topic) ∧ w.cell? ⟨b, off + k * 3 + 2, none⟩ = some (.int .i64 d.index) :=
 ⟨hc 0 _ (flat_at _ 3 ReceiptD.cells_length l k 0 d hd (by omega)), hc 1 _ (flat_at _ 3 ReceiptD.cells_length l k 1 d hd (by omega)), hc 2 _ (flat_at _ 3 ReceiptD.cells_length l k 2 d hd (by omega))⟩
theorem l09Hashes_any (n : Int) (A : Option Addr) (c : Nat) (l : List EntryD) (w : World) (hr : SlF AnyB EntryD.cells 5 w A l c) (hok : ∀ d ∈ l, d.Ok) (hl : l.length ≤ 1048576) :
 Calls Tryz.prog 91 #[.int .i64 n, .slice A l.length c] w fun e w' => ∃ v, e = .returned v ∧ w'.ownsRow w.heap.size 9 1 v l.length ((l.map (leafH n)).flatMap sone) ∧ Ext w w' := by
 obtain ⟨i0, hi, hz0, hz1, hz2⟩ := info_parts info_string
 have HR := hU hr
 have Hok := hU hok
 have He := hU (Ext.new (Below.refl w.heap.size w) (.cells #[] 9))
 have OE := hU (ownsRow_empty w 9 1)
 clear hr hok
 go_enter Tryz.func91, Tryz.ntmps91
 go_wp2_with fail
 go_loopw [5, 6] (fun v i wr => ∃ k : Nat, k ≤ l.length ∧ i = .int .i64 k ∧ wr.ownsRow w.heap.size 9 1 v k (((l.take k).map (leafH n)).flatMap sone) ∧ Ext w wr) (fun _ i _ => l.length - (intOf i).toNat)
 case atStart => exact ⟨0, Nat.zero_le _, rfl, OE.out, He.out⟩
 case round =>
  clear He
  obtain ⟨k, hk, rfl, hown, he⟩ := hrel
  obtain ⟨V, cv, rfl, hnc⟩ := ownsRow_form hown
  have KO := hU hown; clear hown
  by_cases hlt : k < l.length
  case neg =>
   obtain rfl : k = l.length := by omega
   go_wp2_with fail
   go_ret
   exact ⟨_, rfl, by have := KO.out; rwa [List.take_length] at this, he⟩
  obtain ⟨b, off, rfl, hb, hc⟩ := Reads.at_ (HR.out.ext he).reads (k := k) hlt
  obtain ⟨d, hd⟩ : ∃ d, d = l[k] := ⟨_, rfl⟩
  have hdl : l[k]? = some d := by rw [hd]; exact List.getElem?_eq_getElem hlt
  have hdo := Hok.out d (List.mem_of_getElem? hdl)
  obtain ⟨c0, c1, c2, c3, c4⟩ := entry_at hc hdl
  have HDO := hU hdo; have Hdl := hU hdl
  clear hc hd hdl hdo
  go_wp2_with fail
  refine (specLeafHash_any n d _ HDO.out).mono ?_
  rintro e w1 ⟨rfl, h1⟩
  have h2 : Ext wr w1 := by first | exact h1 | exact Ext.next (Ext.new (Below.refl wr.heap.size wr) _) h1
  replace he := he.next h2; replace KO := hU (ownsRow_ext KO.out h2)
  clear h1 h2 c0 c1 c2 c3 c4
  have hw1 := he.size
  obtain ⟨x, hx⟩ : ∃ x, x = leafH n d := ⟨_, rfl⟩
  rw [← hx]
  have HX := hU hx; clear hx
  go_wp2_with (at_builtin; refine wpList_append_moved _ rfl _ _ 29 rfl w.heap.size 9 i0 _ 1 16 Tryz.underlying29 hi hz0 hz1 hz2 rfl (by decide) _ _ _ rfl (KO.out.alloc _) ⟨w1.heap.size, 0, none⟩ 1 1 [.string x] rfl rfl ?c1 ?c2 ?c3 ?c4 ?c5 ?_)
  case c1 => exact (Blk.new w1 9 #[.string x]).adds
  case c2 => intro u hu; simp at hu; subst hu; rfl
  case c3 => unfold maxLen; omega
  case c4 => omega
  case c5 => simp; omega
  intro v' w2 hown' hfrm hmv
  have L0 := hU KO.out.lt
  have he2 : Ext w w2 := hfrm.toExt (he.new _) (fun y hy e => by have := (L0.out _ e).1; omega)
  obtain ⟨hkl, hkd⟩ := List.getElem?_eq_some_iff.1 Hdl.out
  have e2 : ((l.take k).map (leafH n)).flatMap sone ++ [.string x] = ((l.take (k + 1)).map (leafH n)).flatMap sone := by rw [List.take_succ_eq_append_getElem hkl, hkd, HX.out]; simp [sone]
  have O2 := hU (show w2.ownsRow w.heap.size 9 1 v' (k + 1) (((l.take (k + 1)).map (leafH n)).flatMap sone) by rw [← e2, List.map_take]; exact hown')
  clear hown' hfrm hmv L0 hkd e2 KO he
  go_wp2_with fail
  go_roundw
  case rel => exact ⟨k + 1, by omega, by go_num, O2.out, he2⟩
  case measure => simp [intOf]; omega
theorem l12Taken_any (n : Int) (A : Option Addr) (c : Nat) (l : List ReceiptD) (w : World) (hr : SlF AnyB ReceiptD.cells 3 w A l c) (hok : ∀ d ∈ l, d.Ok) (hl : l.length ≤ 1048576) :
 Calls Tryz.prog 92 #[.int .i64 n, .slice A l.length c] w fun e w' => ∃ v, e = .returned v ∧ w'.ownsRow w.heap.size 9 1 v l.length ((l.map (recH n)).flatMap sone) ∧ Ext w w' := by
 obtain ⟨i0, hi, hz0, hz1, hz2⟩ := info_parts info_string
 have HR := hU hr
 have Hok := hU hok
 have He := hU (Ext.new (Below.refl w.heap.size w) (.cells #[] 9))
 have OE := hU (ownsRow_empty w 9 1)
 clear hr hok
 go_enter Tryz.func92, Tryz.ntmps92
 go_wp2_with fail
 go_loopw [5, 6] (fun v i wr => ∃ k : Nat, k ≤ l.length ∧ i = .int .i64 k ∧ wr.ownsRow w.heap.size 9 1 v k (((l.take k).map (recH n)).flatMap sone) ∧ Ext w wr) (fun _ i _ => l.length - (intOf i).toNat)
 case atStart => exact ⟨0, Nat.zero_le _, rfl, OE.out, He.out⟩
 case round =>
  clear He
  obtain ⟨k, hk, rfl, hown, he⟩ := hrel
  obtain ⟨V, cv, rfl, hnc⟩ := ownsRow_form hown
  have KO := hU hown; clear hown
  by_cases hlt : k < l.length
  case neg =>
   obtain rfl : k = l.length := by omega
   go_wp2_with fail
   go_ret
   exact ⟨_, rfl, by have := KO.out; rwa [List.take_length] at this, he⟩
  obtain ⟨b, off, rfl, hb, hc⟩ := Reads.at_ (HR.out.ext he).reads (k := k) hlt
  obtain ⟨d, hd⟩ : ∃ d, d = l[k] := ⟨_, rfl⟩
  have hdl : l[k]? = some d := by rw [hd]; exact List.getElem?_eq_getElem hlt
  have hdo := Hok.out d (List.mem_of_getElem? hdl)
  obtain ⟨c0, c1, c2⟩ := rec_at hc hdl
  have HDO := hU hdo; have Hdl := hU hdl
  clear hc hd hdl hdo
  go_wp2_with fail
  refine (specReceiptHash_any n d _ HDO.out).mono ?_
  rintro e w1 ⟨rfl, h1⟩
  have h2 : Ext wr w1 := by first | exact h1 | exact Ext.next (Ext.new (Below.refl wr.heap.size wr) _) h1
  replace he := he.next h2; replace KO := hU (ownsRow_ext KO.out h2)
  clear h1 h2 c0 c1 c2
  have hw1 := he.size
  obtain ⟨x, hx⟩ : ∃ x, x = recH n d := ⟨_, rfl⟩
  rw [← hx]
  have HX := hU hx; clear hx
  go_wp2_with (at_builtin; refine wpList_append_moved _ rfl _ _ 29 rfl w.heap.size 9 i0 _ 1 16 Tryz.underlying29 hi hz0 hz1 hz2 rfl (by decide) _ _ _ rfl (KO.out.alloc _) ⟨w1.heap.size, 0, none⟩ 1 1 [.string x] rfl rfl ?c1 ?c2 ?c3 ?c4 ?c5 ?_)
  case c1 => exact (Blk.new w1 9 #[.string x]).adds
  case c2 => intro u hu; simp at hu; subst hu; rfl
  case c3 => unfold maxLen; omega
  case c4 => omega
  case c5 => simp; omega
  intro v' w2 hown' hfrm hmv
  have L0 := hU KO.out.lt
  have he2 : Ext w w2 := hfrm.toExt (he.new _) (fun y hy e => by have := (L0.out _ e).1; omega)
  obtain ⟨hkl, hkd⟩ := List.getElem?_eq_some_iff.1 Hdl.out
  have e2 : ((l.take k).map (recH n)).flatMap sone ++ [.string x] = ((l.take (k + 1)).map (recH n)).flatMap sone := by rw [List.take_succ_eq_append_getElem hkl, hkd, HX.out]; simp [sone]
  have O2 := hU (show w2.ownsRow w.heap.size 9 1 v' (k + 1) (((l.take (k + 1)).map (recH n)).flatMap sone) by rw [← e2, List.map_take]; exact hown')
  clear hown' hfrm hmv L0 hkd e2 KO he
  go_wp2_with fail
  go_roundw
  case rel => exact ⟨k + 1, by omega, by go_num, O2.out, he2⟩
  case measure => simp [intOf]; omega
theorem texts_cell {w : World} {B : Nat} {A : Option Addr} {l : List ByteArray} (hr : ReadsL w B sone 1 A l) {k : Nat} {x : ByteArray} (hx : l[k]? = some x) : ∃ b off, A = some ⟨b, off, none⟩ ∧ b < B ∧ w.cell? ⟨b, off + k, none⟩ = some (.string x) := by
 obtain ⟨b, off, e, hb, hc⟩ := Reads.at_ hr (k := k) (List.getElem?_eq_some_iff.1 hx).1
 have := hc 0 _ (flat_at _ 1 sone_length l k 0 x hx (by omega))
 rw [Nat.add_zero, Nat.mul_one] at this
 exact ⟨b, off, e, hb, this⟩

set_option maxHeartbeats 4000000
theorem ExtBut.alloc_ {g : Nat} {a b : World} (h : ExtBut g a b) (o : Obj) : ExtBut g a (b.alloc o) :=
 ⟨h.os, h.tape, h.output, Nat.le_trans h.size (by simp), fun i hi hne => (Below.heap_alloc b o i (Nat.lt_of_lt_of_le hi h.size)).trans (h.block i hi hne)⟩
theorem ExtBut.setNew {g : Nat} {a b : World} (h : ExtBut g a b) {p : Addr} (hp : a.heap.size ≤ p.block) (u : Value) : ExtBut g a (b.setCell p u) :=
 ⟨h.os, h.tape, h.output, by simpa [World.setCell] using h.size, fun i hi hne => (Below.heap_setCell b p u i (by omega)).trans (h.block i hi hne)⟩
theorem ExtBut.setCellsNew {g q : Nat} {a : World} (hq : a.heap.size ≤ q) : ∀ (vs : List Value) (o : Nat) (b : World), ExtBut g a b → ExtBut g a (b.setCells q o vs)
 | [], _, _, h => h
 | v :: vs, o, b, h => ExtBut.setCellsNew hq vs (o + 1) _ (ExtBut.setNew h (p := ⟨q, o, none⟩) hq v)
def rh1 (T : ByteArray) (r : Rd) : Rd := rdNext T r 2
def rh2 (T : ByteArray) (r : Rd) : Rd := rdNext T (rh1 T r) 2
def rh3 (T : ByteArray) (r : Rd) (m : Nat) : Rd := rdNext T (rh2 T r) m
def rh4 (T : ByteArray) (r : Rd) (m : Nat) : Rd := rdNext T (rh3 T r m) 2
def rh5 (T : ByteArray) (r : Rd) (m : Nat) : Rd := rdNext T (rh4 T r m) m
theorem rh1_pos {T : ByteArray} {r : Rd} (h : r.pos ≤ T.size) : (rh1 T r).pos ≤ T.size := rdNext_pos _ _ _ h
theorem rh2_pos {T : ByteArray} {r : Rd} (h : r.pos ≤ T.size) : (rh2 T r).pos ≤ T.size := rdNext_pos _ _ _ (rh1_pos h)
theorem rh3_pos {T : ByteArray} {r : Rd} (m : Nat) (h : r.pos ≤ T.size) : (rh3 T r m).pos ≤ T.size := rdNext_pos _ _ _ (rh2_pos h)
theorem rh4_pos {T : ByteArray} {r : Rd} (m : Nat) (h : r.pos ≤ T.size) : (rh4 T r m).pos ≤ T.size := rdNext_pos _ _ _ (rh3_pos m h)
def rhD (T : ByteArray) (r : Rd) (m : Nat) : HeadD := ⟨(beNum (rdTake T r 2) : Int), (beNum (rdTake T (rh1 T r) 2) : Int), rdTake T (rh2 T r) m, (beNum (rdTake T (rh3 T r m) 2) : Int), rdTake T (rh4 T r m) m⟩
theorem rHead_any (g : Nat) (T : ByteArray) (r : Rd) (m : Nat) (w : World) (hB : Blk w g 69 (rdCells T r)) (hp : r.pos ≤ T.size) (hT : T.size ≤ 1099511627776) (hm : m ≤ 1000) :
 Calls Tryz.prog 28 #[.pointer (some ⟨g, 0, none⟩), .int .i64 (m : Int)] w fun e w' => e = .returned (.agg #[.int .i64 (rhD T r m).number, .int .i64 (rhD T r m).size, .string (rhD T r m).root, .int .i64 (rhD T r m).taken, .string (rhD T r m).takenRoot]) ∧ Blk w' g 69 (rdCells T (rh5 T r m)) ∧ ExtBut g w w' := by
 have hgl := hB.lt
 have hZ := Blk.new w 33 #[.int .i64 0, .int .i64 0, .string ⟨#[]⟩, .int .i64 0, .string ⟨#[]⟩]
 replace hB := hB.alloc (.cells #[.int .i64 0, .int .i64 0, .string ⟨#[]⟩, .int .i64 0, .string ⟨#[]⟩] 33)
 have hx := (ExtBut.refl g w).alloc_ (.cells #[.int .i64 0, .int .i64 0, .string ⟨#[]⟩, .int .i64 0, .string ⟨#[]⟩] 33)
 go_enter Tryz.func28, Tryz.ntmps28
 go_wp2_with fail
 refine (number_any g T r 2 _ hB hp hT (by decide)).mono ?_
 rintro e w1 ⟨rfl, hB, hy⟩
 replace hZ := hZ.extBut hy (by omega)
 replace hx := hx.next hy
 clear hy
 have hsz := hZ.lt
 go_wp2_with fail
 have hgl1 := hB.lt
 have hD := Blk.new w1 33 #[.int .i64 (beNum (rdTake T r 2) : Int), .int .i64 0, .string ⟨#[]⟩, .int .i64 0, .string ⟨#[]⟩]
 replace hZ := hZ.alloc (.cells #[.int .i64 (beNum (rdTake T r 2) : Int), .int .i64 0, .string ⟨#[]⟩, .int .i64 0, .string ⟨#[]⟩] 33)
 replace hB := hB.alloc (.cells #[.int .i64 (beNum (rdTake T r 2) : Int), .int .i64 0, .string ⟨#[]⟩, .int .i64 0, .string ⟨#[]⟩] 33)
 replace hx := hx.alloc_ (.cells #[.int .i64 (beNum (rdTake T r 2) : Int), .int .i64 0, .string ⟨#[]⟩, .int .i64 0, .string ⟨#[]⟩] 33)
 obtain ⟨g2, hg2⟩ : ∃ g2, g2 = w1.heap.size := ⟨_, rfl⟩
 rw [← hg2] at hD hsz hgl1
 rw [← hg2]
 have hq1 : ¬ w.heap.size = g2 := by omega
 have hq2 : ¬ g = g2 := by omega
 clear hg2
 refine (number_any g T (rh1 T r) 2 _ hB (rh1_pos hp) hT (by decide)).mono ?_
 rintro e w2 ⟨rfl, hB, hy⟩
 replace hZ := hZ.extBut hy (by omega)
 replace hD := hD.extBut hy (by omega)
 replace hx := hx.next hy
 clear hy
 obtain ⟨hc, hf⟩ := hD.rules
 go_wp2_with fail
 clear hc hf
 replace hZ := hZ.far (p := ⟨g2, 1, none⟩) hq1 (.int .i64 (beNum (rdTake T (rh1 T r) 2) : Int))
 replace hB := hB.far (p := ⟨g2, 1, none⟩) hq2 (.int .i64 (beNum (rdTake T (rh1 T r) 2) : Int))
 replace hD := hD.set_ 1 (.int .i64 (beNum (rdTake T (rh1 T r) 2) : Int))
 replace hx : ExtBut g w _ := hx.setNew (p := ⟨g2, 1, none⟩) (by show w.heap.size ≤ g2; omega) (.int .i64 (beNum (rdTake T (rh1 T r) 2) : Int))
 refine (bytes_any g T (rh2 T r) m _ hB (rh2_pos hp) hT (by omega)).mono ?_
 rintro e w3 ⟨rfl, hB, hy⟩
 replace hZ := hZ.extBut hy (by omega)
 replace hD := hD.extBut hy (by omega)
 replace hx := hx.next hy
 clear hy
 obtain ⟨hc, hf⟩ := hD.rules
 go_wp2_with fail
 clear hc hf
 replace hZ := hZ.far (p := ⟨g2, 2, none⟩) hq1 (.string (rdTake T (rh2 T r) m))
 replace hB := hB.far (p := ⟨g2, 2, none⟩) hq2 (.string (rdTake T (rh2 T r) m))
 replace hD := hD.set_ 2 (.string (rdTake T (rh2 T r) m))
 replace hx : ExtBut g w _ := hx.setNew (p := ⟨g2, 2, none⟩) (by show w.heap.size ≤ g2; omega) (.string (rdTake T (rh2 T r) m))
 refine (number_any g T (rh3 T r m) 2 _ hB (rh3_pos m hp) hT (by decide)).mono ?_
 rintro e w4 ⟨rfl, hB, hy⟩
 replace hZ := hZ.extBut hy (by omega)
 replace hD := hD.extBut hy (by omega)
 replace hx := hx.next hy
 clear hy
 obtain ⟨hc, hf⟩ := hD.rules
 go_wp2_with fail
 clear hc hf
 replace hZ := hZ.far (p := ⟨g2, 3, none⟩) hq1 (.int .i64 (beNum (rdTake T (rh3 T r m) 2) : Int))
 replace hB := hB.far (p := ⟨g2, 3, none⟩) hq2 (.int .i64 (beNum (rdTake T (rh3 T r m) 2) : Int))
 replace hD := hD.set_ 3 (.int .i64 (beNum (rdTake T (rh3 T r m) 2) : Int))
 replace hx : ExtBut g w _ := hx.setNew (p := ⟨g2, 3, none⟩) (by show w.heap.size ≤ g2; omega) (.int .i64 (beNum (rdTake T (rh3 T r m) 2) : Int))
 refine (bytes_any g T (rh4 T r m) m _ hB (rh4_pos m hp) hT (by omega)).mono ?_
 rintro e w5 ⟨rfl, hB, hy⟩
 replace hZ := hZ.extBut hy (by omega)
 replace hD := hD.extBut hy (by omega)
 replace hx := hx.next hy
 clear hy
 obtain ⟨hc, hf⟩ := hD.rules
 go_upto_region 6 with fail
 clear hc hf
 replace hZ := hZ.far (p := ⟨g2, 4, none⟩) hq1 (.string (rdTake T (rh4 T r m) m))
 replace hB := hB.far (p := ⟨g2, 4, none⟩) hq2 (.string (rdTake T (rh4 T r m) m))
 replace hD := hD.set_ 4 (.string (rdTake T (rh4 T r m) m))
 replace hx : ExtBut g w _ := hx.setNew (p := ⟨g2, 4, none⟩) (by show w.heap.size ≤ g2; omega) (.string (rdTake T (rh4 T r m) m))
 replace hD : Blk _ g2 33 #[.int .i64 (rhD T r m).number, .int .i64 (rhD T r m).size, .string (rhD T r m).root, .int .i64 (rhD T r m).taken, .string (rhD T r m).takenRoot] := hD
 replace hB : Blk _ _ 69 (rdCells T (rh5 T r m)) := hB
 generalize w5.setCell ⟨g2, 4, none⟩ (.string (rdTake T (rh4 T r m) m)) = w9 at *
 obtain ⟨hc, hf⟩ := hD.rules
 obtain ⟨hzc, hzf⟩ := hZ.rules
 go_wp2_with fail
 have hz := hZ.put 0 (rhD T r m).cells (rhD T r m).cells.toArray (by simp [HeadD.cells]) rfl
 have hb := hB.farCells (g' := w.heap.size) (by omega) (rhD T r m).cells 0
 have hy := ExtBut.setCellsNew (a := w) (q := w.heap.size) (Nat.le_refl _) (rhD T r m).cells 0 w9 hx
 change bodyPost _ _ _ _ _ (w9.setCells w.heap.size 0 (rhD T r m).cells)
 generalize w9.setCells w.heap.size 0 (rhD T r m).cells = w10 at *
 clear hc hf hzc hzf hZ hB hx hD
 refine ret_row rfl rfl hz Tryz.underlying33 rfl (by kernel_rfl) rfl ?_
 exact ⟨rfl, hb, hy⟩
end Go.Proofs.YthnpdoadmglipaaGreat
