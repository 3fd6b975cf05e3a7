/-
  HeadNew, ClientNew: walks. No condition.
-/
import Derived.Test.YtkcjhfidgnbdiaaGreatHeadOps
namespace Go.Proofs.YtkcjhfidgnbdiaaGreat
set_option linter.unusedSimpArgs false
open Go.RowKit
set_option linter.unusedVariables false

def newH (ok : Bool) (n : Int) : HeadD := if ok then ⟨0, 0, emptyR n, 0, emptyR n⟩ else ⟨0, 0, ⟨#[]⟩, 0, ⟨#[]⟩⟩
theorem newH_yes (n : Int) : newH true n = ⟨0, 0, emptyR n, 0, emptyR n⟩ := rfl
theorem newH_no (n : Int) : newH false n = ⟨0, 0, ⟨#[]⟩, 0, ⟨#[]⟩⟩ := rfl
set_option maxHeartbeats 1000000 in
theorem specHeadNew_any (n : Int) (w : World) : Calls Tryz.prog 153 #[.int .i64 n] w fun e w' => e = .returned (.tuple #[.agg #[.int .i64 (newH (inR n 1 32) n).number, .int .i64 (newH (inR n 1 32) n).size, .string (newH (inR n 1 32) n).root, .int .i64 (newH (inR n 1 32) n).taken, .string (newH (inR n 1 32) n).takenRoot], .bool (inR n 1 32)]) ∧ Ext w w' := by
  have K0 := Lib.hid (Blk.new w 33 #[.int .i64 0, .int .i64 0, .string ⟨#[]⟩, .int .i64 0, .string ⟨#[]⟩])
  have He := Lib.hid (Ext.new (Below.refl w.heap.size w) (.cells #[.int .i64 0, .int .i64 0, .string ⟨#[]⟩, .int .i64 0, .string ⟨#[]⟩] 33))
  cases b : inR n 1 32
  all_goals
    go_enter Tryz.func153, Tryz.ntmps153
    go_wp2_with fail
    obtain ⟨g, hg⟩ : ∃ g, g = w.heap.size := ⟨_, rfl⟩
    rw [← hg] at K0
    rw [← hg]
    have Hg : w.heap.size ≤ g := by omega
    clear hg
    refine (specEmptyRoot_any n _).mono ?_
    rintro e w1 ⟨rfl, h1⟩
    have hZ := K0.out.ext h1; have he := He.out.next h1
    clear h1 K0 He
    obtain ⟨zc, zf⟩ := hZ.rules
    go_wp2_with fail
  · have hz := hZ.put 0 [.int .i64 0, .int .i64 0, .string ⟨#[]⟩, .int .i64 0, .string ⟨#[]⟩] #[.int .i64 0, .int .i64 0, .string ⟨#[]⟩, .int .i64 0, .string ⟨#[]⟩] (by decide) rfl
    have hx := ext_setCells (W := w) (g := g) Hg [.int .i64 0, .int .i64 0, .string ⟨#[]⟩, .int .i64 0, .string ⟨#[]⟩] 0 w1 he
    exact ret_row_tmp rfl rfl hz Tryz.underlying33 rfl (by kernel_rfl) rfl ⟨rfl, hx⟩
  · have hz := hZ.put 0 [.int .i64 (newH true n).number, .int .i64 (newH true n).size, .string (newH true n).root, .int .i64 (newH true n).taken, .string (newH true n).takenRoot] #[.int .i64 (newH true n).number, .int .i64 (newH true n).size, .string (newH true n).root, .int .i64 (newH true n).taken, .string (newH true n).takenRoot] (by simp) rfl
    have hx := ext_setCells (W := w) (g := g) Hg [.int .i64 (newH true n).number, .int .i64 (newH true n).size, .string (newH true n).root, .int .i64 (newH true n).taken, .string (newH true n).takenRoot] 0 w1 he
    exact ret_row_tmp rfl rfl hz Tryz.underlying33 rfl (by kernel_rfl) rfl ⟨rfl, hx⟩
set_option maxHeartbeats 1000000 in
theorem implHeadNew_any (n : Int) (w : World) : Calls Tryz.prog 183 #[.int .i64 n] w fun e w' => e = .returned (.tuple #[.agg #[.int .i64 (newH (inR n 1 32) n).number, .int .i64 (newH (inR n 1 32) n).size, .string (newH (inR n 1 32) n).root, .int .i64 (newH (inR n 1 32) n).taken, .string (newH (inR n 1 32) n).takenRoot], .bool (inR n 1 32)]) ∧ Ext w w' := by
  have K0 := Lib.hid (Blk.new w 33 #[.int .i64 0, .int .i64 0, .string ⟨#[]⟩, .int .i64 0, .string ⟨#[]⟩])
  have He := Lib.hid (Ext.new (Below.refl w.heap.size w) (.cells #[.int .i64 0, .int .i64 0, .string ⟨#[]⟩, .int .i64 0, .string ⟨#[]⟩] 33))
  cases b : inR n 1 32
  · go_enter Tryz.func183, Tryz.ntmps183
    go_wp2_with (go_at_call 59; refine (isWidth_any _ _).mono ?_; rintro e w' ⟨rfl, rfl⟩)
    exact ret_row_tmp rfl rfl K0.out Tryz.underlying33 rfl (by kernel_rfl) rfl ⟨rfl, He.out⟩
  · go_enter Tryz.func183, Tryz.ntmps183
    go_wp2_with (go_at_call 59; refine (isWidth_any _ _).mono ?_; rintro e w' ⟨rfl, rfl⟩)
    obtain ⟨g, hg⟩ : ∃ g, g = w.heap.size := ⟨_, rfl⟩
    rw [← hg] at K0
    rw [← hg]
    have Hg : w.heap.size ≤ g := by omega
    clear hg
    refine (emptyRoot_any n _).mono ?_
    rintro e w1 ⟨rfl, h1⟩
    have hZ := K0.out.ext h1; have he := He.out.next h1
    clear h1 K0 He
    obtain ⟨zc, zf⟩ := hZ.rules
    go_wp2_with fail
    have hz := hZ.put 0 [.int .i64 (newH true n).number, .int .i64 (newH true n).size, .string (newH true n).root, .int .i64 (newH true n).taken, .string (newH true n).takenRoot] #[.int .i64 (newH true n).number, .int .i64 (newH true n).size, .string (newH true n).root, .int .i64 (newH true n).taken, .string (newH true n).takenRoot] (by simp) rfl
    have hx := ext_setCells (W := w) (g := g) Hg [.int .i64 (newH true n).number, .int .i64 (newH true n).size, .string (newH true n).root, .int .i64 (newH true n).taken, .string (newH true n).takenRoot] 0 w1 he
    exact ret_row_tmp rfl rfl hz Tryz.underlying33 rfl (by kernel_rfl) rfl ⟨rfl, hx⟩
/-- The cells of a client without cursors. -/
def cliCells (n : Int) (s : ByteArray) (h : HeadD) : List Value := [.int .i64 n, .string s, .int .i64 h.number, .int .i64 h.size, .string h.root, .int .i64 h.taken, .string h.takenRoot, .slice none 0 0]
def newC (n : Int) (s : ByteArray) : List Value := if inR n 1 32 && nameOk s then cliCells n s (newH true n) else cliCells 0 ⟨#[]⟩ (newH false n)
/-- GEN -/
def genMarkC : Nat := 0
set_option maxHeartbeats 2000000 in
theorem specClientNew_any (n : Int) (s : ByteArray) (w : World) (hs : s.size ≤ maxLen) : Calls Tryz.prog 90 #[.int .i64 n, .string s] w fun e w' => e = .returned (.tuple #[.agg (newC n s).toArray, .bool (inR n 1 32 && nameOk s)]) ∧ Ext w w' := by
  have K0 := Lib.hid (Blk.new w 142 #[.int .i64 0, .string ⟨#[]⟩, .int .i64 0, .int .i64 0, .string ⟨#[]⟩, .int .i64 0, .string ⟨#[]⟩, .slice none 0 0])
  have He := Lib.hid (Ext.new (Below.refl w.heap.size w) (.cells #[.int .i64 0, .string ⟨#[]⟩, .int .i64 0, .int .i64 0, .string ⟨#[]⟩, .int .i64 0, .string ⟨#[]⟩, .slice none 0 0] 142))
  cases b1 : inR n 1 32 <;> cases b2 : nameOk s
  all_goals
    obtain ⟨fin, hfin⟩ : ∃ fin, fin = (newC n s).toArray := ⟨_, rfl⟩
    rw [← hfin]
    rw [newC, b1, b2] at hfin
    have Hfin := Lib.hid hfin
    clear hfin
    go_enter Tryz.func90, Tryz.ntmps90
    go_wp2_with fail
    obtain ⟨g, hg⟩ : ∃ g, g = w.heap.size := ⟨_, rfl⟩
    rw [← hg] at K0
    rw [← hg]
    have Hg : w.heap.size ≤ g := by omega
    clear hg
    refine (specHeadNew_any n _).mono ?_
    rintro e w1 ⟨rfl, h1⟩
    rw [b1]
    have hZ := K0.out.ext h1; have he := He.out.next h1
    clear h1 K0 He
    skip
  · have hgl := hZ.lt
    go_upto_region 2 with fail
    replace hZ := hZ.alloc (.cells #[.int .i64 (newH false n).number, .int .i64 (newH false n).size, .string (newH false n).root, .int .i64 (newH false n).taken, .string (newH false n).takenRoot] 33)
    have hD := Blk.new w1 33 #[.int .i64 (newH false n).number, .int .i64 (newH false n).size, .string (newH false n).root, .int .i64 (newH false n).taken, .string (newH false n).takenRoot]
    replace he := he.new (.cells #[.int .i64 (newH false n).number, .int .i64 (newH false n).size, .string (newH false n).root, .int .i64 (newH false n).taken, .string (newH false n).takenRoot] 33)
    obtain ⟨g2, hg2⟩ : ∃ g2, g2 = w1.heap.size := ⟨_, rfl⟩
    rw [← hg2] at hD hgl
    rw [← hg2]
    clear hg2
    generalize w1.alloc (.cells #[.int .i64 (newH false n).number, .int .i64 (newH false n).size, .string (newH false n).root, .int .i64 (newH false n).taken, .string (newH false n).takenRoot] 33) = w2 at *
    obtain ⟨zc, zf⟩ := hZ.rules
    obtain ⟨dc, df⟩ := hD.rules
    go_wp2_with (go_at_call 175; refine (specNameOk_any _ _ hs).mono ?_; rintro e w' ⟨rfl, rfl⟩)
    have hz := hZ.put 0 [.int .i64 0, .string ⟨#[]⟩, .int .i64 0, .int .i64 0, .string ⟨#[]⟩, .int .i64 0, .string ⟨#[]⟩, .slice none 0 0] #[.int .i64 0, .string ⟨#[]⟩, .int .i64 0, .int .i64 0, .string ⟨#[]⟩, .int .i64 0, .string ⟨#[]⟩, .slice none 0 0] (by simp) rfl
    have hx := ext_setCells (W := w) (g := g) Hg [.int .i64 0, .string ⟨#[]⟩, .int .i64 0, .int .i64 0, .string ⟨#[]⟩, .int .i64 0, .string ⟨#[]⟩, .slice none 0 0] 0 _ he
    refine ret_row_tmp rfl rfl hz Tryz.underlying142 rfl (by kernel_rfl) rfl ⟨?_, hx⟩
    rw [Hfin.out]; rfl
  · have hgl := hZ.lt
    go_upto_region 2 with fail
    replace hZ := hZ.alloc (.cells #[.int .i64 (newH false n).number, .int .i64 (newH false n).size, .string (newH false n).root, .int .i64 (newH false n).taken, .string (newH false n).takenRoot] 33)
    have hD := Blk.new w1 33 #[.int .i64 (newH false n).number, .int .i64 (newH false n).size, .string (newH false n).root, .int .i64 (newH false n).taken, .string (newH false n).takenRoot]
    replace he := he.new (.cells #[.int .i64 (newH false n).number, .int .i64 (newH false n).size, .string (newH false n).root, .int .i64 (newH false n).taken, .string (newH false n).takenRoot] 33)
    obtain ⟨g2, hg2⟩ : ∃ g2, g2 = w1.heap.size := ⟨_, rfl⟩
    rw [← hg2] at hD hgl
    rw [← hg2]
    clear hg2
    generalize w1.alloc (.cells #[.int .i64 (newH false n).number, .int .i64 (newH false n).size, .string (newH false n).root, .int .i64 (newH false n).taken, .string (newH false n).takenRoot] 33) = w2 at *
    obtain ⟨zc, zf⟩ := hZ.rules
    obtain ⟨dc, df⟩ := hD.rules
    go_wp2_with (go_at_call 175; refine (specNameOk_any _ _ hs).mono ?_; rintro e w' ⟨rfl, rfl⟩)
    have hz := hZ.put 0 [.int .i64 0, .string ⟨#[]⟩, .int .i64 0, .int .i64 0, .string ⟨#[]⟩, .int .i64 0, .string ⟨#[]⟩, .slice none 0 0] #[.int .i64 0, .string ⟨#[]⟩, .int .i64 0, .int .i64 0, .string ⟨#[]⟩, .int .i64 0, .string ⟨#[]⟩, .slice none 0 0] (by simp) rfl
    have hx := ext_setCells (W := w) (g := g) Hg [.int .i64 0, .string ⟨#[]⟩, .int .i64 0, .int .i64 0, .string ⟨#[]⟩, .int .i64 0, .string ⟨#[]⟩, .slice none 0 0] 0 _ he
    refine ret_row_tmp rfl rfl hz Tryz.underlying142 rfl (by kernel_rfl) rfl ⟨?_, hx⟩
    rw [Hfin.out]; rfl
  · have hgl := hZ.lt
    go_upto_region 2 with fail
    replace hZ := hZ.alloc (.cells #[.int .i64 (newH true n).number, .int .i64 (newH true n).size, .string (newH true n).root, .int .i64 (newH true n).taken, .string (newH true n).takenRoot] 33)
    have hD := Blk.new w1 33 #[.int .i64 (newH true n).number, .int .i64 (newH true n).size, .string (newH true n).root, .int .i64 (newH true n).taken, .string (newH true n).takenRoot]
    replace he := he.new (.cells #[.int .i64 (newH true n).number, .int .i64 (newH true n).size, .string (newH true n).root, .int .i64 (newH true n).taken, .string (newH true n).takenRoot] 33)
    obtain ⟨g2, hg2⟩ : ∃ g2, g2 = w1.heap.size := ⟨_, rfl⟩
    rw [← hg2] at hD hgl
    rw [← hg2]
    clear hg2
    generalize w1.alloc (.cells #[.int .i64 (newH true n).number, .int .i64 (newH true n).size, .string (newH true n).root, .int .i64 (newH true n).taken, .string (newH true n).takenRoot] 33) = w2 at *
    obtain ⟨zc, zf⟩ := hZ.rules
    obtain ⟨dc, df⟩ := hD.rules
    go_wp2_with (go_at_call 175; refine (specNameOk_any _ _ hs).mono ?_; rintro e w' ⟨rfl, rfl⟩)
    have hz := hZ.put 0 [.int .i64 0, .string ⟨#[]⟩, .int .i64 0, .int .i64 0, .string ⟨#[]⟩, .int .i64 0, .string ⟨#[]⟩, .slice none 0 0] #[.int .i64 0, .string ⟨#[]⟩, .int .i64 0, .int .i64 0, .string ⟨#[]⟩, .int .i64 0, .string ⟨#[]⟩, .slice none 0 0] (by simp) rfl
    have hx := ext_setCells (W := w) (g := g) Hg [.int .i64 0, .string ⟨#[]⟩, .int .i64 0, .int .i64 0, .string ⟨#[]⟩, .int .i64 0, .string ⟨#[]⟩, .slice none 0 0] 0 _ he
    refine ret_row_tmp rfl rfl hz Tryz.underlying142 rfl (by kernel_rfl) rfl ⟨?_, hx⟩
    rw [Hfin.out]; rfl
  · have hgl := hZ.lt
    go_upto_region 2 with fail
    replace hZ := hZ.alloc (.cells #[.int .i64 (newH true n).number, .int .i64 (newH true n).size, .string (newH true n).root, .int .i64 (newH true n).taken, .string (newH true n).takenRoot] 33)
    have hD := Blk.new w1 33 #[.int .i64 (newH true n).number, .int .i64 (newH true n).size, .string (newH true n).root, .int .i64 (newH true n).taken, .string (newH true n).takenRoot]
    replace he := he.new (.cells #[.int .i64 (newH true n).number, .int .i64 (newH true n).size, .string (newH true n).root, .int .i64 (newH true n).taken, .string (newH true n).takenRoot] 33)
    obtain ⟨g2, hg2⟩ : ∃ g2, g2 = w1.heap.size := ⟨_, rfl⟩
    rw [← hg2] at hD hgl
    rw [← hg2]
    clear hg2
    generalize w1.alloc (.cells #[.int .i64 (newH true n).number, .int .i64 (newH true n).size, .string (newH true n).root, .int .i64 (newH true n).taken, .string (newH true n).takenRoot] 33) = w2 at *
    obtain ⟨zc, zf⟩ := hZ.rules
    obtain ⟨dc, df⟩ := hD.rules
    go_wp2_with (go_at_call 175; refine (specNameOk_any _ _ hs).mono ?_; rintro e w' ⟨rfl, rfl⟩)
    have hz := hZ.put 0 [.int .i64 n, .string s, .int .i64 (newH true n).number, .int .i64 (newH true n).size, .string (newH true n).root, .int .i64 (newH true n).taken, .string (newH true n).takenRoot, .slice none 0 0] #[.int .i64 n, .string s, .int .i64 (newH true n).number, .int .i64 (newH true n).size, .string (newH true n).root, .int .i64 (newH true n).taken, .string (newH true n).takenRoot, .slice none 0 0] (by simp) rfl
    have hx := ext_setCells (W := w) (g := g) Hg [.int .i64 n, .string s, .int .i64 (newH true n).number, .int .i64 (newH true n).size, .string (newH true n).root, .int .i64 (newH true n).taken, .string (newH true n).takenRoot, .slice none 0 0] 0 _ he
    refine ret_row_tmp rfl rfl hz Tryz.underlying142 rfl (by kernel_rfl) rfl ⟨?_, hx⟩
    rw [Hfin.out]; rfl
set_option maxHeartbeats 2000000 in
theorem implClientNew_any (n : Int) (s : ByteArray) (w : World) (hs : s.size ≤ maxLen) : Calls Tryz.prog 94 #[.int .i64 n, .string s] w fun e w' => e = .returned (.tuple #[.agg (newC n s).toArray, .bool (inR n 1 32 && nameOk s)]) ∧ Ext w w' := by
  have K0 := Lib.hid (Blk.new w 142 #[.int .i64 0, .string ⟨#[]⟩, .int .i64 0, .int .i64 0, .string ⟨#[]⟩, .int .i64 0, .string ⟨#[]⟩, .slice none 0 0])
  have He := Lib.hid (Ext.new (Below.refl w.heap.size w) (.cells #[.int .i64 0, .string ⟨#[]⟩, .int .i64 0, .int .i64 0, .string ⟨#[]⟩, .int .i64 0, .string ⟨#[]⟩, .slice none 0 0] 142))
  cases b1 : inR n 1 32 <;> cases b2 : nameOk s
  all_goals
    obtain ⟨fin, hfin⟩ : ∃ fin, fin = (newC n s).toArray := ⟨_, rfl⟩
    rw [← hfin]
    rw [newC, b1, b2] at hfin
    have Hfin := Lib.hid hfin
    clear hfin
    go_enter Tryz.func94, Tryz.ntmps94
    go_wp2_with fail
    obtain ⟨g, hg⟩ : ∃ g, g = w.heap.size := ⟨_, rfl⟩
    rw [← hg] at K0
    rw [← hg]
    have Hg : w.heap.size ≤ g := by omega
    clear hg
    refine (implHeadNew_any n _).mono ?_
    rintro e w1 ⟨rfl, h1⟩
    rw [b1]
    have hZ := K0.out.ext h1; have he := He.out.next h1
    clear h1 K0 He
    skip
  · have hgl := hZ.lt
    go_upto_region 2 with fail
    replace hZ := hZ.alloc (.cells #[.int .i64 (newH false n).number, .int .i64 (newH false n).size, .string (newH false n).root, .int .i64 (newH false n).taken, .string (newH false n).takenRoot] 33)
    have hD := Blk.new w1 33 #[.int .i64 (newH false n).number, .int .i64 (newH false n).size, .string (newH false n).root, .int .i64 (newH false n).taken, .string (newH false n).takenRoot]
    replace he := he.new (.cells #[.int .i64 (newH false n).number, .int .i64 (newH false n).size, .string (newH false n).root, .int .i64 (newH false n).taken, .string (newH false n).takenRoot] 33)
    obtain ⟨g2, hg2⟩ : ∃ g2, g2 = w1.heap.size := ⟨_, rfl⟩
    rw [← hg2] at hD hgl
    rw [← hg2]
    clear hg2
    generalize w1.alloc (.cells #[.int .i64 (newH false n).number, .int .i64 (newH false n).size, .string (newH false n).root, .int .i64 (newH false n).taken, .string (newH false n).takenRoot] 33) = w2 at *
    obtain ⟨zc, zf⟩ := hZ.rules
    obtain ⟨dc, df⟩ := hD.rules
    go_wp2_with (go_at_call 177; refine (NameOk_any _ _ hs).mono ?_; rintro e w' ⟨rfl, rfl⟩)
    have hz := hZ.put 0 [.int .i64 0, .string ⟨#[]⟩, .int .i64 0, .int .i64 0, .string ⟨#[]⟩, .int .i64 0, .string ⟨#[]⟩, .slice none 0 0] #[.int .i64 0, .string ⟨#[]⟩, .int .i64 0, .int .i64 0, .string ⟨#[]⟩, .int .i64 0, .string ⟨#[]⟩, .slice none 0 0] (by simp) rfl
    have hx := ext_setCells (W := w) (g := g) Hg [.int .i64 0, .string ⟨#[]⟩, .int .i64 0, .int .i64 0, .string ⟨#[]⟩, .int .i64 0, .string ⟨#[]⟩, .slice none 0 0] 0 _ he
    refine ret_row_tmp rfl rfl hz Tryz.underlying142 rfl (by kernel_rfl) rfl ⟨?_, hx⟩
    rw [Hfin.out]; rfl
  · have hgl := hZ.lt
    go_upto_region 2 with fail
    replace hZ := hZ.alloc (.cells #[.int .i64 (newH false n).number, .int .i64 (newH false n).size, .string (newH false n).root, .int .i64 (newH false n).taken, .string (newH false n).takenRoot] 33)
    have hD := Blk.new w1 33 #[.int .i64 (newH false n).number, .int .i64 (newH false n).size, .string (newH false n).root, .int .i64 (newH false n).taken, .string (newH false n).takenRoot]
    replace he := he.new (.cells #[.int .i64 (newH false n).number, .int .i64 (newH false n).size, .string (newH false n).root, .int .i64 (newH false n).taken, .string (newH false n).takenRoot] 33)
    obtain ⟨g2, hg2⟩ : ∃ g2, g2 = w1.heap.size := ⟨_, rfl⟩
    rw [← hg2] at hD hgl
    rw [← hg2]
    clear hg2
    generalize w1.alloc (.cells #[.int .i64 (newH false n).number, .int .i64 (newH false n).size, .string (newH false n).root, .int .i64 (newH false n).taken, .string (newH false n).takenRoot] 33) = w2 at *
    obtain ⟨zc, zf⟩ := hZ.rules
    obtain ⟨dc, df⟩ := hD.rules
    go_wp2_with (go_at_call 177; refine (NameOk_any _ _ hs).mono ?_; rintro e w' ⟨rfl, rfl⟩)
    have hz := hZ.put 0 [.int .i64 0, .string ⟨#[]⟩, .int .i64 0, .int .i64 0, .string ⟨#[]⟩, .int .i64 0, .string ⟨#[]⟩, .slice none 0 0] #[.int .i64 0, .string ⟨#[]⟩, .int .i64 0, .int .i64 0, .string ⟨#[]⟩, .int .i64 0, .string ⟨#[]⟩, .slice none 0 0] (by simp) rfl
    have hx := ext_setCells (W := w) (g := g) Hg [.int .i64 0, .string ⟨#[]⟩, .int .i64 0, .int .i64 0, .string ⟨#[]⟩, .int .i64 0, .string ⟨#[]⟩, .slice none 0 0] 0 _ he
    refine ret_row_tmp rfl rfl hz Tryz.underlying142 rfl (by kernel_rfl) rfl ⟨?_, hx⟩
    rw [Hfin.out]; rfl
  · have hgl := hZ.lt
    go_upto_region 2 with fail
    replace hZ := hZ.alloc (.cells #[.int .i64 (newH true n).number, .int .i64 (newH true n).size, .string (newH true n).root, .int .i64 (newH true n).taken, .string (newH true n).takenRoot] 33)
    have hD := Blk.new w1 33 #[.int .i64 (newH true n).number, .int .i64 (newH true n).size, .string (newH true n).root, .int .i64 (newH true n).taken, .string (newH true n).takenRoot]
    replace he := he.new (.cells #[.int .i64 (newH true n).number, .int .i64 (newH true n).size, .string (newH true n).root, .int .i64 (newH true n).taken, .string (newH true n).takenRoot] 33)
    obtain ⟨g2, hg2⟩ : ∃ g2, g2 = w1.heap.size := ⟨_, rfl⟩
    rw [← hg2] at hD hgl
    rw [← hg2]
    clear hg2
    generalize w1.alloc (.cells #[.int .i64 (newH true n).number, .int .i64 (newH true n).size, .string (newH true n).root, .int .i64 (newH true n).taken, .string (newH true n).takenRoot] 33) = w2 at *
    obtain ⟨zc, zf⟩ := hZ.rules
    obtain ⟨dc, df⟩ := hD.rules
    go_wp2_with (go_at_call 177; refine (NameOk_any _ _ hs).mono ?_; rintro e w' ⟨rfl, rfl⟩)
    have hz := hZ.put 0 [.int .i64 0, .string ⟨#[]⟩, .int .i64 0, .int .i64 0, .string ⟨#[]⟩, .int .i64 0, .string ⟨#[]⟩, .slice none 0 0] #[.int .i64 0, .string ⟨#[]⟩, .int .i64 0, .int .i64 0, .string ⟨#[]⟩, .int .i64 0, .string ⟨#[]⟩, .slice none 0 0] (by simp) rfl
    have hx := ext_setCells (W := w) (g := g) Hg [.int .i64 0, .string ⟨#[]⟩, .int .i64 0, .int .i64 0, .string ⟨#[]⟩, .int .i64 0, .string ⟨#[]⟩, .slice none 0 0] 0 _ he
    refine ret_row_tmp rfl rfl hz Tryz.underlying142 rfl (by kernel_rfl) rfl ⟨?_, hx⟩
    rw [Hfin.out]; rfl
  · have hgl := hZ.lt
    go_upto_region 2 with fail
    replace hZ := hZ.alloc (.cells #[.int .i64 (newH true n).number, .int .i64 (newH true n).size, .string (newH true n).root, .int .i64 (newH true n).taken, .string (newH true n).takenRoot] 33)
    have hD := Blk.new w1 33 #[.int .i64 (newH true n).number, .int .i64 (newH true n).size, .string (newH true n).root, .int .i64 (newH true n).taken, .string (newH true n).takenRoot]
    replace he := he.new (.cells #[.int .i64 (newH true n).number, .int .i64 (newH true n).size, .string (newH true n).root, .int .i64 (newH true n).taken, .string (newH true n).takenRoot] 33)
    obtain ⟨g2, hg2⟩ : ∃ g2, g2 = w1.heap.size := ⟨_, rfl⟩
    rw [← hg2] at hD hgl
    rw [← hg2]
    clear hg2
    generalize w1.alloc (.cells #[.int .i64 (newH true n).number, .int .i64 (newH true n).size, .string (newH true n).root, .int .i64 (newH true n).taken, .string (newH true n).takenRoot] 33) = w2 at *
    obtain ⟨zc, zf⟩ := hZ.rules
    obtain ⟨dc, df⟩ := hD.rules
    go_wp2_with (go_at_call 177; refine (NameOk_any _ _ hs).mono ?_; rintro e w' ⟨rfl, rfl⟩)
    have hz := hZ.put 0 [.int .i64 n, .string s, .int .i64 (newH true n).number, .int .i64 (newH true n).size, .string (newH true n).root, .int .i64 (newH true n).taken, .string (newH true n).takenRoot, .slice none 0 0] #[.int .i64 n, .string s, .int .i64 (newH true n).number, .int .i64 (newH true n).size, .string (newH true n).root, .int .i64 (newH true n).taken, .string (newH true n).takenRoot, .slice none 0 0] (by simp) rfl
    have hx := ext_setCells (W := w) (g := g) Hg [.int .i64 n, .string s, .int .i64 (newH true n).number, .int .i64 (newH true n).size, .string (newH true n).root, .int .i64 (newH true n).taken, .string (newH true n).takenRoot, .slice none 0 0] 0 _ he
    refine ret_row_tmp rfl rfl hz Tryz.underlying142 rfl (by kernel_rfl) rfl ⟨?_, hx⟩
    rw [Hfin.out]; rfl
end Go.Proofs.YtkcjhfidgnbdiaaGreat
