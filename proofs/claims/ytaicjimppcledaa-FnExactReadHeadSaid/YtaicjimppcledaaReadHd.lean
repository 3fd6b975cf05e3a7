/-
  ReadHead: the walks. No condition.
-/
import Derived.Test.YtaicjimppcledaaReadHead
namespace Go.Proofs.Ytaicjimppcledaa
open Go.RowKit
set_option linter.unusedVariables false

theorem hrOut_no (d : HeadD) : hrOut false d = HeadD.zero := rfl
theorem hrOut_yes (d : HeadD) : hrOut true d = d := rfl
set_option maxHeartbeats 4000000 in
set_option maxRecDepth 100000 in
theorem implReadHead_any (n : Int) (T : ByteArray) (w : World) (hT : T.size ≤ 1099511627776) :
    Calls Try.prog 43 #[.int .i64 n, .string T] w fun e w' => e = hrRes (hrImpl n T) (hrD n T) ∧ Ext w w' := by
  have Z0 := Blk.new w 38 #[.int .i64 0, .int .i64 0, .string ⟨#[]⟩, .int .i64 0, .string ⟨#[]⟩]
  have He0 := Ext.new (Below.refl w.heap.size w) (.cells #[.int .i64 0, .int .i64 0, .string ⟨#[]⟩, .int .i64 0, .string ⟨#[]⟩] 38)
  cases b1 : inR n 1 32
  · have Hi := Lib.hid (show hrImpl n T = false by simp [hrImpl, b1])
    obtain ⟨zc, zf⟩ := Z0.rules
    go_enter Try.func43, Try.ntmps43
    go_wp2_with (go_at_call 67; refine (isWidth_any _ _).mono ?_; rintro e w' ⟨rfl, rfl⟩)
    refine ret_row_tmp rfl rfl Z0 Try.underlying38 rfl (by kernel_rfl) rfl ⟨?_, He0⟩
    rw [Hi.out]; rfl
  obtain ⟨lw0, lw1⟩ := inR_true b1
  obtain ⟨m, rfl⟩ := Int.eq_ofNat_of_zero_le (show 0 ≤ n by omega)
  obtain ⟨fin, hfin⟩ : ∃ fin, fin = hrRes (hrImpl (m : Int) T) (hrD (m : Int) T) := ⟨_, rfl⟩
  rw [← hfin]
  have hD0 : hrD (m : Int) T = rhD T rh0 m := by simp [hrD]
  have hI0 : hrImpl (m : Int) T = (rdDone T (rh5 T rh0 m) && headOk (m : Int) (rhD T rh0 m)) := by simp only [hrImpl, b1, hD0, Int.toNat_natCast, Bool.true_and]
  rw [hD0, hI0] at hfin
  have Hfin := Lib.hid hfin
  have KZ := Lib.hid Z0
  have KE := Lib.hid He0
  clear hfin hD0 hI0 Z0 He0
  go_enter Try.func43, Try.ntmps43
  go_wp2_with (go_at_call 67; refine (isWidth_any _ _).mono ?_; rintro e w' ⟨rfl, rfl⟩)
  have hB : Blk _ _ 105 (rdCells T rh0) := Blk.new (w.alloc (.cells #[.int .i64 0, .int .i64 0, .string ⟨#[]⟩, .int .i64 0, .string ⟨#[]⟩] 38)) 105 #[.string T, .int .i64 0, .bool false]
  have hZ := KZ.out.alloc (.cells #[.string T, .int .i64 0, .bool false] 105)
  have he := KE.out.new (.cells #[.string T, .int .i64 0, .bool false] 105)
  simp only [World.size_alloc] at hB
  clear KZ KE
  obtain ⟨g, hg⟩ : ∃ g, g = w.heap.size := ⟨_, rfl⟩
  rw [← hg] at hB hZ
  rw [← hg]
  have Hg : w.heap.size ≤ g := by omega
  clear hg
  refine (rHead_any (g + 1) T rh0 m _ hB (Nat.zero_le _) hT (by omega)).mono ?_
  rintro e w1 ⟨rfl, hB, hx⟩
  replace hZ := hZ.extBut hx (by omega); replace he := he.nextBut (by omega) hx; clear hx
  obtain ⟨d, hd⟩ : ∃ d, d = rhD T rh0 m := ⟨_, rfl⟩
  rw [← hd]
  rw [← hd] at Hfin
  have Hd := Lib.hid hd
  clear hd
  have hgl := hZ.lt
  have hgl1 := hB.lt
  go_wp2_with fail
  have hD := Blk.new w1 38 #[.int .i64 d.number, .int .i64 d.size, .string d.root, .int .i64 d.taken, .string d.takenRoot]
  replace hZ := hZ.alloc (.cells #[.int .i64 d.number, .int .i64 d.size, .string d.root, .int .i64 d.taken, .string d.takenRoot] 38)
  replace hB := hB.alloc (.cells #[.int .i64 d.number, .int .i64 d.size, .string d.root, .int .i64 d.taken, .string d.takenRoot] 38)
  replace he := he.new (.cells #[.int .i64 d.number, .int .i64 d.size, .string d.root, .int .i64 d.taken, .string d.takenRoot] 38)
  obtain ⟨g2, hg2⟩ : ∃ g2, g2 = w1.heap.size := ⟨_, rfl⟩
  rw [← hg2] at hD hgl hgl1
  rw [← hg2]
  clear hg2
  generalize w1.alloc (.cells #[.int .i64 d.number, .int .i64 d.size, .string d.root, .int .i64 d.taken, .string d.takenRoot] 38) = w2 at *
  refine (done_any _ T (rh5 T rh0 m) w2 hB).mono ?_
  rintro e w3 ⟨rfl, k, rfl⟩
  replace hZ := hZ.drewN k; replace hD := hD.drewN k; replace he := he.drewN k
  clear hB
  generalize w2.drewN k = w4 at *
  obtain ⟨dc, df⟩ := hD.rules
  obtain ⟨zc, zf⟩ := hZ.rules
  cases b2 : rdDone T (rh5 T rh0 m)
  · have Hi := Lib.hid (show fin = hrRes false d by rw [Hfin.out, b2]; rfl)
    clear Hfin
    go_wp2_with fail
    have hz := hZ.put 0 HeadD.zero.cells HeadD.zero.cells.toArray (by decide) rfl
    have hx := ext_setCells (W := w) (g := g) Hg HeadD.zero.cells 0 w4 he
    refine ret_row_tmp rfl rfl hz Try.underlying38 rfl (by kernel_rfl) rfl ⟨?_, hx⟩
    rw [Hi.out]; rfl
  cases b3 : headOk (m : Int) d
  · have Hi := Lib.hid (show fin = hrRes false d by rw [Hfin.out, b2, b3]; rfl)
    clear Hfin
    go_wp2_with fail
    refine (implHeadOk_any _ d w4).mono ?_
    rintro e w5 ⟨rfl, h1⟩
    replace hZ := hZ.ext h1; replace hD := hD.ext h1; replace he := he.next h1
    clear h1 dc df zc zf
    obtain ⟨zc, zf⟩ := hZ.rules
    go_wp2_with fail
    have hz := hZ.put 0 HeadD.zero.cells HeadD.zero.cells.toArray (by decide) rfl
    have hx := ext_setCells (W := w) (g := g) Hg HeadD.zero.cells 0 w5 he
    refine ret_row_tmp rfl rfl hz Try.underlying38 rfl (by kernel_rfl) rfl ⟨?_, hx⟩
    rw [Hi.out]; rfl
  · have Hi := Lib.hid (show fin = hrRes true d by rw [Hfin.out, b2, b3]; rfl)
    clear Hfin
    go_wp2_with fail
    refine (implHeadOk_any _ d w4).mono ?_
    rintro e w5 ⟨rfl, h1⟩
    replace hZ := hZ.ext h1; replace hD := hD.ext h1; replace he := he.next h1
    clear h1 dc df zc zf
    obtain ⟨zc, zf⟩ := hZ.rules
    obtain ⟨dc, df⟩ := hD.rules
    go_wp2_with fail
    have hz := hZ.put 0 d.cells d.cells.toArray (by simp [HeadD.cells]) rfl
    have hx := ext_setCells (W := w) (g := g) Hg d.cells 0 w5 he
    refine ret_row_tmp rfl rfl hz Try.underlying38 rfl (by kernel_rfl) rfl ⟨?_, hx⟩
    rw [Hi.out]; rfl
set_option maxHeartbeats 4000000 in
set_option maxRecDepth 100000 in
theorem specReadHead_any (n : Int) (T : ByteArray) (w : World) (hT : T.size ≤ 1099511627776) :
    Calls Try.prog 42 #[.int .i64 n, .string T] w fun e w' => e = hrRes (hrSpec n T) (hrD n T) ∧ Ext w w' := by
  have Z0 := Blk.new w 38 #[.int .i64 0, .int .i64 0, .string ⟨#[]⟩, .int .i64 0, .string ⟨#[]⟩]
  have He0 := Ext.new (Below.refl w.heap.size w) (.cells #[.int .i64 0, .int .i64 0, .string ⟨#[]⟩, .int .i64 0, .string ⟨#[]⟩] 38)
  cases b1 : inR n 1 32
  · have Hi := Lib.hid (show hrSpec n T = false by simp [hrSpec, b1])
    obtain ⟨zc, zf⟩ := Z0.rules
    go_enter Try.func42, Try.ntmps42
    go_wp2_with (go_at_call 66; refine (l02Width_any _ _).mono ?_; rintro e w' ⟨rfl, rfl⟩)
    refine ret_row_tmp rfl rfl Z0 Try.underlying38 rfl (by kernel_rfl) rfl ⟨?_, He0⟩
    rw [Hi.out]; rfl
  obtain ⟨lw0, lw1⟩ := inR_true b1
  obtain ⟨m, rfl⟩ := Int.eq_ofNat_of_zero_le (show 0 ≤ n by omega)
  obtain ⟨fin, hfin⟩ : ∃ fin, fin = hrRes (hrSpec (m : Int) T) (hrD (m : Int) T) := ⟨_, rfl⟩
  rw [← hfin]
  have hD0 : hrD (m : Int) T = rhD T rh0 m := by simp [hrD]
  have hI0 : hrSpec (m : Int) T = (!(rh5 T rh0 m).bad && (headOk (m : Int) (rhD T rh0 m) && ((headText (m : Int) (rhD T rh0 m)).toList == T.toList))) := by simp only [hrSpec, b1, hD0, Int.toNat_natCast, Bool.true_and]
  rw [hD0, hI0] at hfin
  have Hfin := Lib.hid hfin
  have KZ := Lib.hid Z0
  have KE := Lib.hid He0
  clear hfin hD0 hI0 Z0 He0
  go_enter Try.func42, Try.ntmps42
  go_wp2_with (go_at_call 66; refine (l02Width_any _ _).mono ?_; rintro e w' ⟨rfl, rfl⟩)
  have hB : Blk _ _ 101 (rdCells T rh0) := Blk.new (w.alloc (.cells #[.int .i64 0, .int .i64 0, .string ⟨#[]⟩, .int .i64 0, .string ⟨#[]⟩] 38)) 101 #[.string T, .int .i64 0, .bool false]
  have hZ := KZ.out.alloc (.cells #[.string T, .int .i64 0, .bool false] 101)
  have he := KE.out.new (.cells #[.string T, .int .i64 0, .bool false] 101)
  simp only [World.size_alloc] at hB
  clear KZ KE
  obtain ⟨g, hg⟩ : ∃ g, g = w.heap.size := ⟨_, rfl⟩
  rw [← hg] at hB hZ
  rw [← hg]
  have Hg : w.heap.size ≤ g := by omega
  clear hg
  refine (l10Read_any (g + 1) T rh0 m _ hB (Nat.zero_le _) hT (by omega)).mono ?_
  rintro e w1 ⟨rfl, hB, hx⟩
  replace hZ := hZ.extBut hx (by omega); replace he := he.nextBut (by omega) hx; clear hx
  obtain ⟨d, hd⟩ : ∃ d, d = rhD T rh0 m := ⟨_, rfl⟩
  rw [← hd]
  rw [← hd] at Hfin
  have Hd := Lib.hid hd
  clear hd
  have hgl := hZ.lt
  have hgl1 := hB.lt
  go_wp2_with fail
  have hD := Blk.new w1 38 #[.int .i64 d.number, .int .i64 d.size, .string d.root, .int .i64 d.taken, .string d.takenRoot]
  replace hZ := hZ.alloc (.cells #[.int .i64 d.number, .int .i64 d.size, .string d.root, .int .i64 d.taken, .string d.takenRoot] 38)
  replace hB := hB.alloc (.cells #[.int .i64 d.number, .int .i64 d.size, .string d.root, .int .i64 d.taken, .string d.takenRoot] 38)
  replace he := he.new (.cells #[.int .i64 d.number, .int .i64 d.size, .string d.root, .int .i64 d.taken, .string d.takenRoot] 38)
  obtain ⟨g2, hg2⟩ : ∃ g2, g2 = w1.heap.size := ⟨_, rfl⟩
  rw [← hg2] at hD hgl hgl1
  rw [← hg2]
  clear hg2
  generalize w1.alloc (.cells #[.int .i64 d.number, .int .i64 d.size, .string d.root, .int .i64 d.taken, .string d.takenRoot] 38) = w2 at *
  refine (specHeadText_any (m : Int) d w2).mono ?_
  rintro e w4 ⟨rfl, h1⟩
  replace hZ := hZ.ext h1; replace hD := hD.ext h1; replace hB := hB.ext h1; replace he := he.next h1
  clear h1
  obtain ⟨dc, df⟩ := hD.rules
  obtain ⟨zc, zf⟩ := hZ.rules
  have q2 : w4.cell? ⟨g + 1, 2, none⟩ = some (.bool (rh5 T rh0 m).bad) := hB.cell 2
  have q2f := hB.frozen 2
  cases b2 : (rh5 T rh0 m).bad
  case true =>
    have Hi := Lib.hid (show fin = hrRes false d by rw [Hfin.out, b2]; rfl)
    rw [b2] at q2
    clear Hfin
    go_wp2_with fail
    have hz := hZ.put 0 HeadD.zero.cells HeadD.zero.cells.toArray (by decide) rfl
    have hx := ext_setCells (W := w) (g := g) Hg HeadD.zero.cells 0 w4 he
    refine ret_row_tmp rfl rfl hz Try.underlying38 rfl (by kernel_rfl) rfl ⟨?_, hx⟩
    rw [Hi.out]; rfl
  rw [b2] at q2
  cases b3 : headOk (m : Int) d
  · have Hi := Lib.hid (show fin = hrRes false d by rw [Hfin.out, b2, b3]; rfl)
    clear Hfin
    go_wp2_with fail
    have hz := hZ.put 0 HeadD.zero.cells HeadD.zero.cells.toArray (by decide) rfl
    have hx := ext_setCells (W := w) (g := g) Hg HeadD.zero.cells 0 w4 he
    refine ret_row_tmp rfl rfl hz Try.underlying38 rfl (by kernel_rfl) rfl ⟨?_, hx⟩
    rw [Hi.out]; rfl
  cases b4 : ((headText (m : Int) d).toList == T.toList)
  · have Hi := Lib.hid (show fin = hrRes false d by rw [Hfin.out, b2, b3, b4]; rfl)
    have b4' : ((headText (m : Int) d).toList != T.toList) = true := by rw [bne, b4]; rfl
    clear Hfin
    go_wp2_with fail
    have hz := hZ.put 0 HeadD.zero.cells HeadD.zero.cells.toArray (by decide) rfl
    have hx := ext_setCells (W := w) (g := g) Hg HeadD.zero.cells 0 w4 he
    refine ret_row_tmp rfl rfl hz Try.underlying38 rfl (by kernel_rfl) rfl ⟨?_, hx⟩
    rw [Hi.out]; rfl
  · have Hi := Lib.hid (show fin = hrRes true d by rw [Hfin.out, b2, b3, b4]; rfl)
    have b4' : ((headText (m : Int) d).toList != T.toList) = false := by rw [bne, b4]; rfl
    clear Hfin
    go_wp2_with fail
    have hz := hZ.put 0 d.cells d.cells.toArray (by simp [HeadD.cells]) rfl
    have hx := ext_setCells (W := w) (g := g) Hg d.cells 0 w4 he
    refine ret_row_tmp rfl rfl hz Try.underlying38 rfl (by kernel_rfl) rfl ⟨?_, hx⟩
    rw [Hi.out]; rfl
end Go.Proofs.Ytaicjimppcledaa
