/-
  ScannerNew, and the laws' own functions at a scanner without cursors: walks. Written by program (gen_scnnew.py). No condition.
-/
import Derived.Test.YtkcjhfidgnbdiaaCliNil
namespace Go.Proofs.Ytkcjhfidgnbdiaa
set_option linter.unusedSimpArgs false
open Go.RowKit
set_option linter.unusedVariables false

theorem newC_list (n : Int) (s : ByteArray) : ∃ (a : Int) (b : ByteArray) (h : HeadD), newC n s = [.int .i64 a, .string b, .int .i64 h.number, .int .i64 h.size, .string h.root, .int .i64 h.taken, .string h.takenRoot, .slice none 0 0] ∧ ((inR n 1 32 && nameOk s) = false → newC n s = [.int .i64 0, .string ⟨#[]⟩, .int .i64 0, .int .i64 0, .string ⟨#[]⟩, .int .i64 0, .string ⟨#[]⟩, .slice none 0 0]) := by
  unfold newC
  cases hb : (inR n 1 32 && nameOk s)
  · exact ⟨0, ⟨#[]⟩, newH false n, rfl, fun _ => rfl⟩
  · exact ⟨n, s, newH true n, rfl, fun h => by cases h⟩
def newS (n : Int) (s : ByteArray) : List Value := newC n s ++ [.int .i64 0, .slice none 0 0]
set_option maxHeartbeats 2000000 in
theorem specScannerNew_any (n : Int) (s : ByteArray) (w : World) (hs : s.size ≤ maxLen) : Calls Try.prog 42 #[.int .i64 n, .string s] w fun e w' => e = .returned (.tuple #[.agg (newS n s).toArray, .bool (inR n 1 32 && nameOk s)]) ∧ Ext w w' := by
  have K0 := Lib.hid (Blk.new w 81 #[.int .i64 0, .string ⟨#[]⟩, .int .i64 0, .int .i64 0, .string ⟨#[]⟩, .int .i64 0, .string ⟨#[]⟩, .slice none 0 0, .int .i64 0, .slice none 0 0])
  have He := Lib.hid (Ext.new (Below.refl w.heap.size w) (.cells #[.int .i64 0, .string ⟨#[]⟩, .int .i64 0, .int .i64 0, .string ⟨#[]⟩, .int .i64 0, .string ⟨#[]⟩, .slice none 0 0, .int .i64 0, .slice none 0 0] 81))
  obtain ⟨a, b, h, hf, hz0⟩ := newC_list n s
  have Hf := Lib.hid hf
  have Hz0 := Lib.hid hz0
  clear hf hz0
  obtain ⟨fin, hfin⟩ : ∃ fin, fin = (newS n s).toArray := ⟨_, rfl⟩
  obtain ⟨ok, hok⟩ : ∃ ok, ok = (inR n 1 32 && nameOk s) := ⟨_, rfl⟩
  rw [← hfin, ← hok]
  have Hfin := Lib.hid hfin
  have Ho := Lib.hid hok
  clear hfin hok
  go_enter Try.func42, Try.ntmps42
  go_wp2_with fail
  obtain ⟨g, hg⟩ : ∃ g, g = w.heap.size := ⟨_, rfl⟩
  rw [← hg] at K0
  rw [← hg]
  have Hg : w.heap.size ≤ g := by omega
  clear hg
  refine (specClientNew_any n s _ hs).mono ?_
  rintro e w1 ⟨he1, h1⟩
  rw [Hf.out, ← Ho.out] at he1
  subst he1
  have hZ := K0.out.ext h1; have he := He.out.next h1
  clear h1 K0 He
  have hgl := hZ.lt
  go_upto_region 2 with fail
  replace hZ := hZ.alloc (.cells #[.int .i64 a, .string b, .int .i64 h.number, .int .i64 h.size, .string h.root, .int .i64 h.taken, .string h.takenRoot, .slice none 0 0] 77)
  have hD := Blk.new w1 77 #[.int .i64 a, .string b, .int .i64 h.number, .int .i64 h.size, .string h.root, .int .i64 h.taken, .string h.takenRoot, .slice none 0 0]
  replace he := he.new (.cells #[.int .i64 a, .string b, .int .i64 h.number, .int .i64 h.size, .string h.root, .int .i64 h.taken, .string h.takenRoot, .slice none 0 0] 77)
  obtain ⟨g2, hg2⟩ : ∃ g2, g2 = w1.heap.size := ⟨_, rfl⟩
  rw [← hg2] at hD hgl
  rw [← hg2]
  clear hg2
  generalize w1.alloc (.cells #[.int .i64 a, .string b, .int .i64 h.number, .int .i64 h.size, .string h.root, .int .i64 h.taken, .string h.takenRoot, .slice none 0 0] 77) = w2 at *
  obtain ⟨zc, zf⟩ := hZ.rules
  obtain ⟨dc, df⟩ := hD.rules
  cases ok
  · have E := Lib.hid (show fin = #[.int .i64 0, .string ⟨#[]⟩, .int .i64 0, .int .i64 0, .string ⟨#[]⟩, .int .i64 0, .string ⟨#[]⟩, .slice none 0 0, .int .i64 0, .slice none 0 0] by rw [Hfin.out, newS, Hz0.out Ho.out.symm]; rfl)
    go_wp2_with fail
    have hz := hZ.put 0 [.int .i64 0, .string ⟨#[]⟩, .int .i64 0, .int .i64 0, .string ⟨#[]⟩, .int .i64 0, .string ⟨#[]⟩, .slice none 0 0, .int .i64 0, .slice none 0 0] #[.int .i64 0, .string ⟨#[]⟩, .int .i64 0, .int .i64 0, .string ⟨#[]⟩, .int .i64 0, .string ⟨#[]⟩, .slice none 0 0, .int .i64 0, .slice none 0 0] (by simp) rfl
    have hx := ext_setCells (W := w) (g := g) Hg [.int .i64 0, .string ⟨#[]⟩, .int .i64 0, .int .i64 0, .string ⟨#[]⟩, .int .i64 0, .string ⟨#[]⟩, .slice none 0 0, .int .i64 0, .slice none 0 0] 0 _ he
    refine ret_row_tmp rfl rfl hz Try.underlying81 rfl (by kernel_rfl) rfl ⟨?_, hx⟩
    rw [E.out]; rfl
  · have E := Lib.hid (show fin = #[.int .i64 a, .string b, .int .i64 h.number, .int .i64 h.size, .string h.root, .int .i64 h.taken, .string h.takenRoot, .slice none 0 0, .int .i64 0, .slice none 0 0] by rw [Hfin.out, newS, Hf.out]; rfl)
    go_wp2_with fail
    have hz := hZ.put 0 [.int .i64 a, .string b, .int .i64 h.number, .int .i64 h.size, .string h.root, .int .i64 h.taken, .string h.takenRoot, .slice none 0 0, .int .i64 0, .slice none 0 0] #[.int .i64 a, .string b, .int .i64 h.number, .int .i64 h.size, .string h.root, .int .i64 h.taken, .string h.takenRoot, .slice none 0 0, .int .i64 0, .slice none 0 0] (by simp) rfl
    have hx := ext_setCells (W := w) (g := g) Hg [.int .i64 a, .string b, .int .i64 h.number, .int .i64 h.size, .string h.root, .int .i64 h.taken, .string h.takenRoot, .slice none 0 0, .int .i64 0, .slice none 0 0] 0 _ he
    refine ret_row_tmp rfl rfl hz Try.underlying81 rfl (by kernel_rfl) rfl ⟨?_, hx⟩
    rw [E.out]; rfl
set_option maxHeartbeats 2000000 in
theorem implScannerNew_any (n : Int) (s : ByteArray) (w : World) (hs : s.size ≤ maxLen) : Calls Try.prog 45 #[.int .i64 n, .string s] w fun e w' => e = .returned (.tuple #[.agg (newS n s).toArray, .bool (inR n 1 32 && nameOk s)]) ∧ Ext w w' := by
  have K0 := Lib.hid (Blk.new w 81 #[.int .i64 0, .string ⟨#[]⟩, .int .i64 0, .int .i64 0, .string ⟨#[]⟩, .int .i64 0, .string ⟨#[]⟩, .slice none 0 0, .int .i64 0, .slice none 0 0])
  have He := Lib.hid (Ext.new (Below.refl w.heap.size w) (.cells #[.int .i64 0, .string ⟨#[]⟩, .int .i64 0, .int .i64 0, .string ⟨#[]⟩, .int .i64 0, .string ⟨#[]⟩, .slice none 0 0, .int .i64 0, .slice none 0 0] 81))
  obtain ⟨a, b, h, hf, hz0⟩ := newC_list n s
  have Hf := Lib.hid hf
  have Hz0 := Lib.hid hz0
  clear hf hz0
  obtain ⟨fin, hfin⟩ : ∃ fin, fin = (newS n s).toArray := ⟨_, rfl⟩
  obtain ⟨ok, hok⟩ : ∃ ok, ok = (inR n 1 32 && nameOk s) := ⟨_, rfl⟩
  rw [← hfin, ← hok]
  have Hfin := Lib.hid hfin
  have Ho := Lib.hid hok
  clear hfin hok
  go_enter Try.func45, Try.ntmps45
  go_wp2_with fail
  obtain ⟨g, hg⟩ : ∃ g, g = w.heap.size := ⟨_, rfl⟩
  rw [← hg] at K0
  rw [← hg]
  have Hg : w.heap.size ≤ g := by omega
  clear hg
  refine (implClientNew_any n s _ hs).mono ?_
  rintro e w1 ⟨he1, h1⟩
  rw [Hf.out, ← Ho.out] at he1
  subst he1
  have hZ := K0.out.ext h1; have he := He.out.next h1
  clear h1 K0 He
  have hgl := hZ.lt
  go_upto_region 2 with fail
  replace hZ := hZ.alloc (.cells #[.int .i64 a, .string b, .int .i64 h.number, .int .i64 h.size, .string h.root, .int .i64 h.taken, .string h.takenRoot, .slice none 0 0] 77)
  have hD := Blk.new w1 77 #[.int .i64 a, .string b, .int .i64 h.number, .int .i64 h.size, .string h.root, .int .i64 h.taken, .string h.takenRoot, .slice none 0 0]
  replace he := he.new (.cells #[.int .i64 a, .string b, .int .i64 h.number, .int .i64 h.size, .string h.root, .int .i64 h.taken, .string h.takenRoot, .slice none 0 0] 77)
  obtain ⟨g2, hg2⟩ : ∃ g2, g2 = w1.heap.size := ⟨_, rfl⟩
  rw [← hg2] at hD hgl
  rw [← hg2]
  clear hg2
  generalize w1.alloc (.cells #[.int .i64 a, .string b, .int .i64 h.number, .int .i64 h.size, .string h.root, .int .i64 h.taken, .string h.takenRoot, .slice none 0 0] 77) = w2 at *
  obtain ⟨zc, zf⟩ := hZ.rules
  obtain ⟨dc, df⟩ := hD.rules
  cases ok
  · have E := Lib.hid (show fin = #[.int .i64 0, .string ⟨#[]⟩, .int .i64 0, .int .i64 0, .string ⟨#[]⟩, .int .i64 0, .string ⟨#[]⟩, .slice none 0 0, .int .i64 0, .slice none 0 0] by rw [Hfin.out, newS, Hz0.out Ho.out.symm]; rfl)
    go_wp2_with fail
    have hz := hZ.put 0 [.int .i64 0, .string ⟨#[]⟩, .int .i64 0, .int .i64 0, .string ⟨#[]⟩, .int .i64 0, .string ⟨#[]⟩, .slice none 0 0, .int .i64 0, .slice none 0 0] #[.int .i64 0, .string ⟨#[]⟩, .int .i64 0, .int .i64 0, .string ⟨#[]⟩, .int .i64 0, .string ⟨#[]⟩, .slice none 0 0, .int .i64 0, .slice none 0 0] (by simp) rfl
    have hx := ext_setCells (W := w) (g := g) Hg [.int .i64 0, .string ⟨#[]⟩, .int .i64 0, .int .i64 0, .string ⟨#[]⟩, .int .i64 0, .string ⟨#[]⟩, .slice none 0 0, .int .i64 0, .slice none 0 0] 0 _ he
    refine ret_row_tmp rfl rfl hz Try.underlying81 rfl (by kernel_rfl) rfl ⟨?_, hx⟩
    rw [E.out]; rfl
  · have E := Lib.hid (show fin = #[.int .i64 a, .string b, .int .i64 h.number, .int .i64 h.size, .string h.root, .int .i64 h.taken, .string h.takenRoot, .slice none 0 0, .int .i64 0, .slice none 0 0] by rw [Hfin.out, newS, Hf.out]; rfl)
    go_wp2_with fail
    have hz := hZ.put 0 [.int .i64 a, .string b, .int .i64 h.number, .int .i64 h.size, .string h.root, .int .i64 h.taken, .string h.takenRoot, .slice none 0 0, .int .i64 0, .slice none 0 0] #[.int .i64 a, .string b, .int .i64 h.number, .int .i64 h.size, .string h.root, .int .i64 h.taken, .string h.takenRoot, .slice none 0 0, .int .i64 0, .slice none 0 0] (by simp) rfl
    have hx := ext_setCells (W := w) (g := g) Hg [.int .i64 a, .string b, .int .i64 h.number, .int .i64 h.size, .string h.root, .int .i64 h.taken, .string h.takenRoot, .slice none 0 0, .int .i64 0, .slice none 0 0] 0 _ he
    refine ret_row_tmp rfl rfl hz Try.underlying81 rfl (by kernel_rfl) rfl ⟨?_, hx⟩
    rw [E.out]; rfl
set_option maxHeartbeats 1000000 in
theorem eqScanner_nil (a : Int) (b : ByteArray) (h : HeadD) (w : World) : Calls Try.prog 84 #[.agg #[.int .i64 a, .string b, .int .i64 h.number, .int .i64 h.size, .string h.root, .int .i64 h.taken, .string h.takenRoot, .slice none 0 0, .int .i64 0, .slice none 0 0], .agg #[.int .i64 a, .string b, .int .i64 h.number, .int .i64 h.size, .string h.root, .int .i64 h.taken, .string h.takenRoot, .slice none 0 0, .int .i64 0, .slice none 0 0]] w fun e w' => e = .returned (.bool true) ∧ Ext w w' := by
  go_enter Try.func84, Try.ntmps84
  go_wp2_with fail
  refine (eqClient_nil a b h _).mono ?_
  rintro e w1 ⟨rfl, h1⟩
  have B0 := ((Blk.new _ _ _).alloc _).ext h1
  have B1 := (Blk.new _ _ _).ext h1
  have he := (Ext.new (Ext.new (Below.refl _ w) _) _).next h1
  simp only [World.size_alloc] at B1
  clear h1
  obtain ⟨r0, f0⟩ := B0.rules
  obtain ⟨r1, f1⟩ := B1.rules
  go_wp2_with fail
  refine (eqCursorS_nil _).mono ?_
  rintro e w2 ⟨rfl, h1⟩
  replace he := he.next h1
  go_wp2_with fail
  go_ret
  exact ⟨rfl, he⟩
end Go.Proofs.Ytkcjhfidgnbdiaa
