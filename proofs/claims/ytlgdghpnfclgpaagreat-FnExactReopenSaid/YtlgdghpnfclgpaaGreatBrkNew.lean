/-
  SealNew, BrokerNew on both sides: walks. No condition.
-/
import Derived.Test.YtlgdghpnfclgpaaGreatBroker0
import Derived.Test.YtlgdghpnfclgpaaGreatFrm
import Derived.Test.YtlgdghpnfclgpaaGreatName
namespace Go.Proofs.YtlgdghpnfclgpaaGreat
set_option linter.unusedSimpArgs false
open Go.RowKit
set_option linter.unusedVariables false
def sealNC (h : HeadD) : List Value := [.int .i64 0, .slice none 0 0, .int .i64 0, .slice none 0 0, .int .i64 h.number, .int .i64 h.size, .string h.root, .int .i64 h.taken, .string h.takenRoot]
def brokNC (n : Int) (v : Value) (h : HeadD) : List Value := [.int .i64 n, .slice none 0 0, .slice none 0 0, v, .int .i64 0, .slice none 0 0, .int .i64 0, .slice none 0 0, .int .i64 h.number, .int .i64 h.size, .string h.root, .int .i64 h.taken, .string h.takenRoot]
set_option maxHeartbeats 2000000 in
theorem implSealNew_any (n : Int) (w : World) : Calls Tryz.prog 201 #[.int .i64 n] w fun e w' => e = .returned (.tuple #[.agg (sealNC (newH (inR n 1 32) n)).toArray, .bool (inR n 1 32)]) ∧ Ext w w' := by
 have K0 := Lib.hid (Blk.new w 57 #[.int .i64 0, .slice none 0 0, .int .i64 0, .slice none 0 0, .int .i64 0, .int .i64 0, .string ⟨#[]⟩, .int .i64 0, .string ⟨#[]⟩])
 have He := Lib.hid (Ext.new (Below.refl w.heap.size w) (.cells #[.int .i64 0, .slice none 0 0, .int .i64 0, .slice none 0 0, .int .i64 0, .int .i64 0, .string ⟨#[]⟩, .int .i64 0, .string ⟨#[]⟩] 57))
 cases b1 : inR n 1 32
 all_goals
  obtain ⟨h, hh⟩ : ∃ h, h = newH (inR n 1 32) n := ⟨_, rfl⟩
  have Hh := Lib.hid hh
  rw [b1] at hh
  rw [← hh]
  clear hh
  go_enter Tryz.func201, Tryz.ntmps201
  go_wp2_with fail
  obtain ⟨g, hg⟩ : ∃ g, g = w.heap.size := ⟨_, rfl⟩
  rw [← hg] at K0
  rw [← hg]
  have Hg : w.heap.size ≤ g := by omega
  clear hg
  refine (implHeadNew_any n _).mono ?_
  rintro e w1 ⟨he1, h1⟩
  rw [← Hh.out, b1] at he1
  subst he1
  have hZ := K0.out.ext h1; have he := He.out.next h1
  clear h1 K0 He
  have hgl := hZ.lt
  go_upto_region 2 with fail
  replace hZ := hZ.alloc (.cells #[.int .i64 h.number, .int .i64 h.size, .string h.root, .int .i64 h.taken, .string h.takenRoot] 55)
  have hD := Blk.new w1 55 #[.int .i64 h.number, .int .i64 h.size, .string h.root, .int .i64 h.taken, .string h.takenRoot]
  replace he := he.new (.cells #[.int .i64 h.number, .int .i64 h.size, .string h.root, .int .i64 h.taken, .string h.takenRoot] 55)
  obtain ⟨g2, hg2⟩ : ∃ g2, g2 = w1.heap.size := ⟨_, rfl⟩
  rw [← hg2] at hD hgl
  rw [← hg2]
  clear hg2
  generalize w1.alloc (.cells #[.int .i64 h.number, .int .i64 h.size, .string h.root, .int .i64 h.taken, .string h.takenRoot] 55) = w2 at *
  obtain ⟨zc, zf⟩ := hZ.rules
  obtain ⟨dc, df⟩ := hD.rules
  go_wp2_with fail
 · have e0 : h = newH false n := by rw [Hh.out, b1]
   have hz := hZ.put 0 [.int .i64 0, .slice none 0 0, .int .i64 0, .slice none 0 0, .int .i64 0, .int .i64 0, .string ⟨#[]⟩, .int .i64 0, .string ⟨#[]⟩] #[.int .i64 0, .slice none 0 0, .int .i64 0, .slice none 0 0, .int .i64 0, .int .i64 0, .string ⟨#[]⟩, .int .i64 0, .string ⟨#[]⟩] (by simp) rfl
   have hx := ext_setCells (W := w) (g := g) Hg [.int .i64 0, .slice none 0 0, .int .i64 0, .slice none 0 0, .int .i64 0, .int .i64 0, .string ⟨#[]⟩, .int .i64 0, .string ⟨#[]⟩] 0 _ he
   refine ret_row_tmp rfl rfl hz Tryz.underlying57 rfl (by kernel_rfl) rfl ⟨?_, hx⟩
   rw [e0]; rfl
 · have hz := hZ.put 0 [.int .i64 0, .slice none 0 0, .int .i64 0, .slice none 0 0, .int .i64 h.number, .int .i64 h.size, .string h.root, .int .i64 h.taken, .string h.takenRoot] #[.int .i64 0, .slice none 0 0, .int .i64 0, .slice none 0 0, .int .i64 h.number, .int .i64 h.size, .string h.root, .int .i64 h.taken, .string h.takenRoot] (by simp) rfl
   have hx := ext_setCells (W := w) (g := g) Hg [.int .i64 0, .slice none 0 0, .int .i64 0, .slice none 0 0, .int .i64 h.number, .int .i64 h.size, .string h.root, .int .i64 h.taken, .string h.takenRoot] 0 _ he
   exact ret_row_tmp rfl rfl hz Tryz.underlying57 rfl (by kernel_rfl) rfl ⟨rfl, hx⟩
set_option maxHeartbeats 2000000 in
theorem specSealNew_any (n : Int) (w : World) : Calls Tryz.prog 118 #[.int .i64 n] w fun e w' => e = .returned (.tuple #[.agg (sealNC (newH (inR n 1 32) n)).toArray, .bool (inR n 1 32)]) ∧ Ext w w' := by
 have K0 := Lib.hid (Blk.new w 57 #[.int .i64 0, .slice none 0 0, .int .i64 0, .slice none 0 0, .int .i64 0, .int .i64 0, .string ⟨#[]⟩, .int .i64 0, .string ⟨#[]⟩])
 have He := Lib.hid (Ext.new (Below.refl w.heap.size w) (.cells #[.int .i64 0, .slice none 0 0, .int .i64 0, .slice none 0 0, .int .i64 0, .int .i64 0, .string ⟨#[]⟩, .int .i64 0, .string ⟨#[]⟩] 57))
 cases b1 : inR n 1 32
 all_goals
  obtain ⟨h, hh⟩ : ∃ h, h = newH (inR n 1 32) n := ⟨_, rfl⟩
  have Hh := Lib.hid hh
  rw [b1] at hh
  rw [← hh]
  clear hh
  go_enter Tryz.func118, Tryz.ntmps118
  go_wp2_with fail
  obtain ⟨g, hg⟩ : ∃ g, g = w.heap.size := ⟨_, rfl⟩
  rw [← hg] at K0
  rw [← hg]
  have Hg : w.heap.size ≤ g := by omega
  clear hg
  refine (specHeadNew_any n _).mono ?_
  rintro e w1 ⟨he1, h1⟩
  rw [← Hh.out, b1] at he1
  subst he1
  have hZ := K0.out.ext h1; have he := He.out.next h1
  clear h1 K0 He
  have hgl := hZ.lt
  go_upto_region 2 with fail
  replace hZ := hZ.alloc (.cells #[.int .i64 h.number, .int .i64 h.size, .string h.root, .int .i64 h.taken, .string h.takenRoot] 55)
  have hD := Blk.new w1 55 #[.int .i64 h.number, .int .i64 h.size, .string h.root, .int .i64 h.taken, .string h.takenRoot]
  replace he := he.new (.cells #[.int .i64 h.number, .int .i64 h.size, .string h.root, .int .i64 h.taken, .string h.takenRoot] 55)
  obtain ⟨g2, hg2⟩ : ∃ g2, g2 = w1.heap.size := ⟨_, rfl⟩
  rw [← hg2] at hD hgl
  rw [← hg2]
  clear hg2
  generalize w1.alloc (.cells #[.int .i64 h.number, .int .i64 h.size, .string h.root, .int .i64 h.taken, .string h.takenRoot] 55) = w2 at *
  obtain ⟨zc, zf⟩ := hZ.rules
  obtain ⟨dc, df⟩ := hD.rules
  go_wp2_with fail
 · have e0 : h = newH false n := by rw [Hh.out, b1]
   have hz := hZ.put 0 [.int .i64 0, .slice none 0 0, .int .i64 0, .slice none 0 0, .int .i64 0, .int .i64 0, .string ⟨#[]⟩, .int .i64 0, .string ⟨#[]⟩] #[.int .i64 0, .slice none 0 0, .int .i64 0, .slice none 0 0, .int .i64 0, .int .i64 0, .string ⟨#[]⟩, .int .i64 0, .string ⟨#[]⟩] (by simp) rfl
   have hx := ext_setCells (W := w) (g := g) Hg [.int .i64 0, .slice none 0 0, .int .i64 0, .slice none 0 0, .int .i64 0, .int .i64 0, .string ⟨#[]⟩, .int .i64 0, .string ⟨#[]⟩] 0 _ he
   refine ret_row_tmp rfl rfl hz Tryz.underlying57 rfl (by kernel_rfl) rfl ⟨?_, hx⟩
   rw [e0]; rfl
 · have hz := hZ.put 0 [.int .i64 0, .slice none 0 0, .int .i64 0, .slice none 0 0, .int .i64 h.number, .int .i64 h.size, .string h.root, .int .i64 h.taken, .string h.takenRoot] #[.int .i64 0, .slice none 0 0, .int .i64 0, .slice none 0 0, .int .i64 h.number, .int .i64 h.size, .string h.root, .int .i64 h.taken, .string h.takenRoot] (by simp) rfl
   have hx := ext_setCells (W := w) (g := g) Hg [.int .i64 0, .slice none 0 0, .int .i64 0, .slice none 0 0, .int .i64 h.number, .int .i64 h.size, .string h.root, .int .i64 h.taken, .string h.takenRoot] 0 _ he
   exact ret_row_tmp rfl rfl hz Tryz.underlying57 rfl (by kernel_rfl) rfl ⟨rfl, hx⟩
set_option maxHeartbeats 2000000 in
set_option maxRecDepth 100000 in
theorem specBrokerNew_no (n : Int) (w : World) (b1 : inR n 1 32 = false) : Calls Tryz.prog 62 #[.int .i64 n] w fun e w' => e = .returned (.tuple #[.agg (brokNC 0 (.slice none 0 0) (newH false n)).toArray, .bool false]) ∧ Ext w w' := by
 have K0 := Lib.hid (Blk.new w 59 #[.int .i64 0, .slice none 0 0, .slice none 0 0, .slice none 0 0, .int .i64 0, .slice none 0 0, .int .i64 0, .slice none 0 0, .int .i64 0, .int .i64 0, .string ⟨#[]⟩, .int .i64 0, .string ⟨#[]⟩])
 have He := Lib.hid (Ext.new (Below.refl w.heap.size w) (.cells #[.int .i64 0, .slice none 0 0, .slice none 0 0, .slice none 0 0, .int .i64 0, .slice none 0 0, .int .i64 0, .slice none 0 0, .int .i64 0, .int .i64 0, .string ⟨#[]⟩, .int .i64 0, .string ⟨#[]⟩] 59))
 go_enter Tryz.func62, Tryz.ntmps62
 go_wp2_with fail
 obtain ⟨g, hg⟩ : ∃ g, g = w.heap.size := ⟨_, rfl⟩
 rw [← hg] at K0
 rw [← hg]
 have Hg : w.heap.size ≤ g := by omega
 clear hg
 refine (specSealNew_any n _).mono ?_
 rintro e w1 ⟨rfl, h1⟩
 rw [b1]
 have hZ := K0.out.ext h1; have he := He.out.next h1
 clear h1 K0 He
 simp only [sealNC]
 have hgl := hZ.lt
 go_upto_region 2 with fail
 replace hZ := hZ.alloc (.cells #[.int .i64 0, .slice none 0 0, .int .i64 0, .slice none 0 0, .int .i64 (newH false n).number, .int .i64 (newH false n).size, .string (newH false n).root, .int .i64 (newH false n).taken, .string (newH false n).takenRoot] 57)
 have hD := Blk.new w1 57 #[.int .i64 0, .slice none 0 0, .int .i64 0, .slice none 0 0, .int .i64 (newH false n).number, .int .i64 (newH false n).size, .string (newH false n).root, .int .i64 (newH false n).taken, .string (newH false n).takenRoot]
 replace he := he.new (.cells #[.int .i64 0, .slice none 0 0, .int .i64 0, .slice none 0 0, .int .i64 (newH false n).number, .int .i64 (newH false n).size, .string (newH false n).root, .int .i64 (newH false n).taken, .string (newH false n).takenRoot] 57)
 obtain ⟨g2, hg2⟩ : ∃ g2, g2 = w1.heap.size := ⟨_, rfl⟩
 rw [← hg2] at hD hgl
 rw [← hg2]
 clear hg2
 generalize w1.alloc (.cells #[.int .i64 0, .slice none 0 0, .int .i64 0, .slice none 0 0, .int .i64 (newH false n).number, .int .i64 (newH false n).size, .string (newH false n).root, .int .i64 (newH false n).taken, .string (newH false n).takenRoot] 57) = w2 at *
 obtain ⟨zc, zf⟩ := hZ.rules
 go_wp2_with fail
 have hz := hZ.put 0 [.int .i64 0, .slice none 0 0, .slice none 0 0, .slice none 0 0, .int .i64 0, .slice none 0 0, .int .i64 0, .slice none 0 0, .int .i64 0, .int .i64 0, .string ⟨#[]⟩, .int .i64 0, .string ⟨#[]⟩] #[.int .i64 0, .slice none 0 0, .slice none 0 0, .slice none 0 0, .int .i64 0, .slice none 0 0, .int .i64 0, .slice none 0 0, .int .i64 0, .int .i64 0, .string ⟨#[]⟩, .int .i64 0, .string ⟨#[]⟩] (by simp) rfl
 have hx := ext_setCells (W := w) (g := g) Hg [.int .i64 0, .slice none 0 0, .slice none 0 0, .slice none 0 0, .int .i64 0, .slice none 0 0, .int .i64 0, .slice none 0 0, .int .i64 0, .int .i64 0, .string ⟨#[]⟩, .int .i64 0, .string ⟨#[]⟩] 0 _ he
 exact ret_row_tmp rfl rfl hz Tryz.underlying59 rfl (by kernel_rfl) rfl ⟨rfl, hx⟩
set_option maxHeartbeats 2000000 in
set_option maxRecDepth 100000 in
theorem specBrokerNew_yes (n : Int) (w : World) (b1 : inR n 1 32 = true) : Calls Tryz.prog 62 #[.int .i64 n] w fun e w' => ∃ q, e = .returned (.tuple #[.agg (brokNC n (.slice (some ⟨q, 0, none⟩) 1 1) (newH true n)).toArray, .bool true]) ∧ w.heap.size ≤ q ∧ Blk w' q 55 (newH true n).cells.toArray ∧ Ext w w' := by
 have K0 := Lib.hid (Blk.new w 59 #[.int .i64 0, .slice none 0 0, .slice none 0 0, .slice none 0 0, .int .i64 0, .slice none 0 0, .int .i64 0, .slice none 0 0, .int .i64 0, .int .i64 0, .string ⟨#[]⟩, .int .i64 0, .string ⟨#[]⟩])
 have He := Lib.hid (Ext.new (Below.refl w.heap.size w) (.cells #[.int .i64 0, .slice none 0 0, .slice none 0 0, .slice none 0 0, .int .i64 0, .slice none 0 0, .int .i64 0, .slice none 0 0, .int .i64 0, .int .i64 0, .string ⟨#[]⟩, .int .i64 0, .string ⟨#[]⟩] 59))
 obtain ⟨h, hh⟩ : ∃ h, h = newH true n := ⟨_, rfl⟩
 have Hh := Lib.hid hh
 rw [← hh]
 clear hh
 go_enter Tryz.func62, Tryz.ntmps62
 go_wp2_with fail
 obtain ⟨g, hg⟩ : ∃ g, g = w.heap.size := ⟨_, rfl⟩
 have K1 := Lib.hid (show Blk _ g _ _ by rw [hg]; exact K0.out)
 rw [← hg]
 have Hg : w.heap.size ≤ g := by omega
 clear hg K0
 refine (specSealNew_any n _).mono ?_
 rintro e w1 ⟨he1, h1⟩
 rw [b1, ← Hh.out] at he1
 subst he1
 have hZ := K1.out.ext h1; have he := He.out.next h1
 clear h1 K1 He
 simp only [sealNC]
 have hgl := hZ.lt
 go_upto_region 2 with fail
 replace hZ := hZ.alloc (.cells #[.int .i64 0, .slice none 0 0, .int .i64 0, .slice none 0 0, .int .i64 h.number, .int .i64 h.size, .string h.root, .int .i64 h.taken, .string h.takenRoot] 57)
 have hD := Blk.new w1 57 #[.int .i64 0, .slice none 0 0, .int .i64 0, .slice none 0 0, .int .i64 h.number, .int .i64 h.size, .string h.root, .int .i64 h.taken, .string h.takenRoot]
 replace he := he.new (.cells #[.int .i64 0, .slice none 0 0, .int .i64 0, .slice none 0 0, .int .i64 h.number, .int .i64 h.size, .string h.root, .int .i64 h.taken, .string h.takenRoot] 57)
 obtain ⟨g2, hg2⟩ : ∃ g2, g2 = w1.heap.size := ⟨_, rfl⟩
 rw [← hg2] at hD hgl
 rw [← hg2]
 clear hg2
 generalize w1.alloc (.cells #[.int .i64 0, .slice none 0 0, .int .i64 0, .slice none 0 0, .int .i64 h.number, .int .i64 h.size, .string h.root, .int .i64 h.taken, .string h.takenRoot] 57) = w2 at *
 obtain ⟨zc, zf⟩ := hZ.rules
 obtain ⟨dc, df⟩ := hD.rules
 have hw2 := he.size
 have K3 := Lib.hid (Blk.new w2 55 #[.int .i64 h.number, .int .i64 h.size, .string h.root, .int .i64 h.taken, .string h.takenRoot])
 have hZ3 := hZ.alloc (.cells #[.int .i64 h.number, .int .i64 h.size, .string h.root, .int .i64 h.taken, .string h.takenRoot] 55)
 have he3 := he.new (.cells #[.int .i64 h.number, .int .i64 h.size, .string h.root, .int .i64 h.taken, .string h.takenRoot] 55)
 have hlt := hZ.lt
 have hlt2 := hD.lt
 obtain ⟨w4, hw4, hz, hx, ho⟩ : ∃ w4, w4 = (w2.alloc (.cells #[.int .i64 h.number, .int .i64 h.size, .string h.root, .int .i64 h.taken, .string h.takenRoot] 55)).setCells g 0 [.int .i64 n, .slice none 0 0, .slice none 0 0, .slice (some ⟨w2.heap.size, 0, none⟩) 1 1, .int .i64 0, .slice none 0 0, .int .i64 0, .slice none 0 0, .int .i64 h.number, .int .i64 h.size, .string h.root, .int .i64 h.taken, .string h.takenRoot] ∧ Blk w4 g 59 #[.int .i64 n, .slice none 0 0, .slice none 0 0, .slice (some ⟨w2.heap.size, 0, none⟩) 1 1, .int .i64 0, .slice none 0 0, .int .i64 0, .slice none 0 0, .int .i64 h.number, .int .i64 h.size, .string h.root, .int .i64 h.taken, .string h.takenRoot] ∧ Ext w w4 ∧ Blk w4 w2.heap.size 55 h.cells.toArray :=
  ⟨_, rfl, hZ3.put 0 [.int .i64 n, .slice none 0 0, .slice none 0 0, .slice (some ⟨w2.heap.size, 0, none⟩) 1 1, .int .i64 0, .slice none 0 0, .int .i64 0, .slice none 0 0, .int .i64 h.number, .int .i64 h.size, .string h.root, .int .i64 h.taken, .string h.takenRoot] #[.int .i64 n, .slice none 0 0, .slice none 0 0, .slice (some ⟨w2.heap.size, 0, none⟩) 1 1, .int .i64 0, .slice none 0 0, .int .i64 0, .slice none 0 0, .int .i64 h.number, .int .i64 h.size, .string h.root, .int .i64 h.taken, .string h.takenRoot] (by simp) rfl, ext_setCells (W := w) (g := g) Hg [.int .i64 n, .slice none 0 0, .slice none 0 0, .slice (some ⟨w2.heap.size, 0, none⟩) 1 1, .int .i64 0, .slice none 0 0, .int .i64 0, .slice none 0 0, .int .i64 h.number, .int .i64 h.size, .string h.root, .int .i64 h.taken, .string h.takenRoot] 0 _ he3, K3.out.farCells (g' := g) (by omega) [.int .i64 n, .slice none 0 0, .slice none 0 0, .slice (some ⟨w2.heap.size, 0, none⟩) 1 1, .int .i64 0, .slice none 0 0, .int .i64 0, .slice none 0 0, .int .i64 h.number, .int .i64 h.size, .string h.root, .int .i64 h.taken, .string h.takenRoot] 0⟩
 have HW := Lib.hid hw4
 have T3 := Lib.hid (hZ3.there 0 13 (by simp))
 have Z4 := Lib.hid hz; have X4 := Lib.hid hx; have O4 := Lib.hid ho
 clear hw4 hz hx ho hZ3 he3 K3 he hZ hD
 have R2 : Hid (w2.rangeAt g2 0 [.int .i64 0, .slice none 0 0, .int .i64 0, .slice none 0 0, .int .i64 h.number, .int .i64 h.size, .string h.root, .int .i64 h.taken, .string h.takenRoot]) := Lib.hid (fun j v hv => by rw [Nat.zero_add, dc]; simpa using hv)
 go_wp2_with (first | (refine wpList_store_list rfl 59 _ _ rfl rfl g 0 [.int .i64 n, .slice none 0 0, .slice none 0 0, .slice (some ⟨w2.heap.size, 0, none⟩) 1 1, .int .i64 0, .slice none 0 0, .int .i64 0, .slice none 0 0, .int .i64 h.number, .int .i64 h.size, .string h.root, .int .i64 h.taken, .string h.takenRoot] rfl rfl T3.out (by kernel_rfl) (by rfl) ?_; rw [← HW.out]))
 exact ret_row_tmp rfl rfl Z4.out Tryz.underlying59 rfl (by kernel_rfl) rfl ⟨_, rfl, hw2, O4.out, X4.out⟩
end Go.Proofs.YtlgdghpnfclgpaaGreat
