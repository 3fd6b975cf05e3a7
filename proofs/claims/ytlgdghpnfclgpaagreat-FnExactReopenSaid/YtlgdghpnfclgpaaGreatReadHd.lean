/-
  ReadHead: walks, and that the two agree. No condition.
  ReadHead: the walks. No condition.
-/
import Derived.Test.YtlgdghpnfclgpaaGreatHeadRead
import Derived.Test.YtlgdghpnfclgpaaGreatFrames
import Derived.Test.YtlgdghpnfclgpaaGreatWords
namespace Go.Proofs.YtlgdghpnfclgpaaGreat
set_option linter.unusedSimpArgs false
open Go.RowKit
set_option linter.unusedVariables false
def headT (h : HeadD) : ByteArray := lowB h.number.toNat 2 ++ lowB h.size.toNat 2 ++ h.root ++ lowB h.taken.toNat 2 ++ h.takenRoot
def headText (n : Int) (h : HeadD) : ByteArray := if headOk n h then headT h else ⟨#[]⟩
theorem headOk_bounds {n : Int} {h : HeadD} (hk : headOk n h = true) : 1 ≤ n ∧ n ≤ 32 ∧ 0 ≤ h.number ∧ h.number ≤ 399 ∧ 0 ≤ h.size ∧ h.size ≤ 512 ∧ (h.root.size : Int) = n ∧ 0 ≤ h.taken ∧ h.taken ≤ 512 ∧ (h.takenRoot.size : Int) = n := by
 simp only [headOk, rootB, Bool.and_eq_true, beq_iff_eq] at hk
 obtain ⟨⟨⟨h1, h2⟩, ⟨h3, h4⟩, _⟩, ⟨h5, h6⟩, _⟩ := hk
 have := inR_true h1
 have := inR_true h2
 have := inR_true h3
 have := inR_true h5
 omega
set_option maxHeartbeats 2000000 in
set_option maxRecDepth 100000 in
theorem specHeadText_any (n : Int) (d : HeadD) (w : World) : Calls Tryz.prog 131 #[.int .i64 n, .agg #[.int .i64 d.number, .int .i64 d.size, .string d.root, .int .i64 d.taken, .string d.takenRoot]] w fun e w' => e = .returned (.tuple #[.string (headText n d), .bool (headOk n d)]) ∧ Ext w w' := by
 have K0 := Lib.hid (Blk.new w 55 #[.int .i64 d.number, .int .i64 d.size, .string d.root, .int .i64 d.taken, .string d.takenRoot])
 have He := Lib.hid (Ext.new (Below.refl w.heap.size w) (.cells #[.int .i64 d.number, .int .i64 d.size, .string d.root, .int .i64 d.taken, .string d.takenRoot] 55))
 cases b : headOk n d
 · have Ht := Lib.hid (show headText n d = ⟨#[]⟩ by simp [headText, b])
   go_enter Tryz.func131, Tryz.ntmps131
   go_wp2_with fail
   refine (specHeadOk_any n d _).mono ?_
   rintro e w1 ⟨rfl, h1⟩
   have he := He.out.next h1
   go_wp2_with fail
   go_ret2
   exact ⟨by rw [Ht.out]; rfl, he⟩
 · have Ht := Lib.hid (show headText n d = lowB d.number.toNat 2 ++ lowB d.size.toNat 2 ++ d.root ++ lowB d.taken.toNat 2 ++ d.takenRoot by simp [headText, b, headT])
   obtain ⟨z0, z1, z2, z3, z4, z5, z6, z7, z8, z9⟩ := headOk_bounds b
   have y1 : (lowB d.number.toNat 2).size ≤ 2 := by rw [lowB_size]; exact Nat.le_refl _
   have y2 : (lowB d.size.toNat 2).size ≤ 2 := by rw [lowB_size]; exact Nat.le_refl _
   have y3 : (lowB d.taken.toNat 2).size ≤ 2 := by rw [lowB_size]; exact Nat.le_refl _
   have n1 : ¬ 9223372036854775807 < (lowB d.number.toNat 2).size + (lowB d.size.toNat 2).size := by omega
   have n2 : ¬ 9223372036854775807 < (lowB d.number.toNat 2).size + (lowB d.size.toNat 2).size + d.root.size := by omega
   have n3 : ¬ 9223372036854775807 < (lowB d.number.toNat 2).size + (lowB d.size.toNat 2).size + d.root.size + (lowB d.taken.toNat 2).size := by omega
   have n4 : ¬ 9223372036854775807 < (lowB d.number.toNat 2).size + (lowB d.size.toNat 2).size + d.root.size + (lowB d.taken.toNat 2).size + d.takenRoot.size := by omega
   clear z0 z1 z6 z9
   go_enter Tryz.func131, Tryz.ntmps131
   go_wp2_with fail
   obtain ⟨g, hg⟩ : ∃ g, g = w.heap.size := ⟨_, rfl⟩
   rw [← hg] at K0
   rw [← hg]
   clear hg
   refine (specHeadOk_any n d _).mono ?_
   rintro e w1 ⟨rfl, h1⟩
   have he := He.out.next h1
   have hB := K0.out.ext h1
   clear h1 K0 He
   have c0 := hB.cell 0
   have c1 := hB.cell 1
   have c2 := hB.cell 2
   have c3 := hB.cell 3
   have c4 := hB.cell 4
   go_wp2_with fail
   go_region_held3 (fun w' => w'.cell? ⟨g, 0, none⟩ = some (.int .i64 d.number) ∧ w'.cell? ⟨g, 1, none⟩ = some (.int .i64 d.size) ∧ w'.cell? ⟨g, 2, none⟩ = some (.string d.root) ∧ w'.cell? ⟨g, 3, none⟩ = some (.int .i64 d.taken) ∧ w'.cell? ⟨g, 4, none⟩ = some (.string d.takenRoot) ∧ Blk w' g 55 #[.int .i64 d.number, .int .i64 d.size, .string d.root, .int .i64 d.taken, .string d.takenRoot] ∧ Ext w w')
    (first
     | exact ⟨c0, c1, c2, c3, c4, hB.drew, he.drew⟩
     | (go_split_ands; refine ⟨?_, ?_, ?_, ?_, ?_, ?_, ?_⟩ <;> assumption)
     | (go_split_ands; have hB' := Blk.ext (by assumption) h1; exact ⟨hB'.cell 0, hB'.cell 1, hB'.cell 2, hB'.cell 3, hB'.cell 4, hB', Ext.next (by assumption) h1⟩))
    (first
     | (go_at_call 183; refine (l03NumberI_any _ 2 _ (by omega) (by omega) (by decide)).mono ?_; rintro e w' ⟨rfl, h1⟩))
   all_goals
    go_wp2_with fail
    go_ret2
    refine ⟨by rw [Ht.out]; rfl, ?_⟩
    go_split_ands
    assumption
def rh0 : Rd := ⟨0, false⟩
def hrD (n : Int) (T : ByteArray) : HeadD := rhD T rh0 n.toNat
def hrImpl (n : Int) (T : ByteArray) : Bool := inR n 1 32 && (rdDone T (rh5 T rh0 n.toNat) && headOk n (hrD n T))
def hrSpec (n : Int) (T : ByteArray) : Bool := inR n 1 32 && (!(rh5 T rh0 n.toNat).bad && (headOk n (hrD n T) && ((headText n (hrD n T)).toList == T.toList)))
theorem two_low (b : ByteArray) (h : b.size = 2) : lowB (beNum b) 2 = b := by
 rw [lowB_two]; exact two_of b h
theorem hr_same (n : Int) (T : ByteArray) : hrImpl n T = hrSpec n T := by
 unfold hrImpl hrSpec
 cases hw : inR n 1 32
 · rfl
 simp only [Bool.true_and]
 cases hb : (rh5 T rh0 n.toNat).bad
 · cases hk : headOk n (hrD n T)
   · simp
   · have h5 := rdNext_ok hb
     have h4 := rdNext_ok h5.1
     have h3 := rdNext_ok h4.1
     have h2 := rdNext_ok h3.1
     have h1 := rdNext_ok h2.1
     have p1 := two_low _ (rdTake_full h2.1)
     have p2 := two_low _ (rdTake_full h3.1)
     have p4 := two_low _ (rdTake_full h5.1)
     have hS : Sofar T (rh5 T rh0 n.toNat) (((((⟨#[]⟩ ++ rdTake T rh0 2) ++ rdTake T (rh1 T rh0) 2) ++ rdTake T (rh2 T rh0) n.toNat) ++ rdTake T (rh3 T rh0 n.toNat) 2) ++ rdTake T (rh4 T rh0 n.toNat) n.toNat) :=
      (((((Sofar.start T).take 2).take 2).take _).take 2).take _
     rw [← p1, ← p2, ← p4] at hS
     have hE : headT (hrD n T) = ((((lowB (beNum (rdTake T rh0 2)) 2 ++ lowB (beNum (rdTake T (rh1 T rh0) 2)) 2) ++ rdTake T (rh2 T rh0) n.toNat) ++ lowB (beNum (rdTake T (rh3 T rh0 n.toNat) 2)) 2) ++ rdTake T (rh4 T rh0 n.toNat) n.toNat) := by
      simp only [headT, hrD, rhD, Int.toNat_natCast]
     rw [show (⟨#[]⟩ : ByteArray) ++ lowB (beNum (rdTake T rh0 2)) 2 = lowB (beNum (rdTake T rh0 2)) 2 from ByteArray.empty_append, ← hE] at hS
     have h := reread (k := ⟨#[]⟩) (K := ⟨#[]⟩) (by rw [show (⟨#[]⟩ : ByteArray) ++ headT (hrD n T) = headT (hrD n T) from ByteArray.empty_append]; exact hS) hb rfl
     rw [show (⟨#[]⟩ : ByteArray) ++ headT (hrD n T) = headT (hrD n T) from ByteArray.empty_append] at h
     simp only [decide_true, Bool.true_and] at h
     rw [h, headText, hk, bytes_beq]
     simp
 · rw [reread_bad hb]; simp
def hrOut (ok : Bool) (d : HeadD) : HeadD := if ok then d else ⟨0, 0, ⟨#[]⟩, 0, ⟨#[]⟩⟩
def hrRes (ok : Bool) (d : HeadD) : Ending := .returned (.tuple #[.agg (hrOut ok d).cells.toArray, .bool ok])
def HeadD.zero : HeadD := ⟨0, 0, ⟨#[]⟩, 0, ⟨#[]⟩⟩
end Go.Proofs.YtlgdghpnfclgpaaGreat
namespace Go.Proofs.YtlgdghpnfclgpaaGreat
set_option linter.unusedSimpArgs false
open Go.RowKit
set_option linter.unusedVariables false
set_option maxHeartbeats 4000000 in
set_option maxRecDepth 100000 in
theorem implReadHead_any (n : Int) (T : ByteArray) (w : World) (hT : T.size ≤ 1099511627776) :
 Calls Tryz.prog 142 #[.int .i64 n, .string T] w fun e w' => e = hrRes (hrImpl n T) (hrD n T) ∧ Ext w w' := by
 have Z0 := Blk.new w 55 #[.int .i64 0, .int .i64 0, .string ⟨#[]⟩, .int .i64 0, .string ⟨#[]⟩]
 have He0 := Ext.new (Below.refl w.heap.size w) (.cells #[.int .i64 0, .int .i64 0, .string ⟨#[]⟩, .int .i64 0, .string ⟨#[]⟩] 55)
 cases b1 : inR n 1 32
 · have Hi := Lib.hid (show hrImpl n T = false by simp [hrImpl, b1])
   obtain ⟨zc, zf⟩ := Z0.rules
   go_enter Tryz.func142, Tryz.ntmps142
   go_wp2_with (go_at_call 74; refine (isWidth_any _ _).mono ?_; rintro e w' ⟨rfl, rfl⟩)
   refine ret_row_tmp rfl rfl Z0 Tryz.underlying55 rfl (by kernel_rfl) rfl ⟨?_, He0⟩
   rw [Hi.out]; rfl
 obtain ⟨lw0, lw1⟩ := inR_true b1
 obtain ⟨m, rfl⟩ := Int.eq_ofNat_of_zero_le (show 0 ≤ n by omega)
 obtain ⟨fin, hfin⟩ : ∃ fin, fin = hrRes (hrImpl (m : Int) T) (hrD (m : Int) T) := ⟨_, rfl⟩
 rw [← hfin]
 have hD0 : hrD (m : Int) T = rhD T rh0 m := by simp [hrD]
 have hI0 : hrImpl (m : Int) T = (rdDone T (rh5 T rh0 m) && headOk (m : Int) (rhD T rh0 m)) := by simp only [hrImpl, b1, hD0, Int.toNat_natCast, Bool.true_and]
 rw [hD0, hI0] at hfin
 have Hfin := Lib.hid hfin
 have KZ := Lib.hid Z0
 have KE := Lib.hid He0
 clear hfin hD0 hI0 Z0 He0
 go_enter Tryz.func142, Tryz.ntmps142
 go_wp2_with (go_at_call 74; refine (isWidth_any _ _).mono ?_; rintro e w' ⟨rfl, rfl⟩)
 have hB : Blk _ _ 234 (rdCells T rh0) := Blk.new (w.alloc (.cells #[.int .i64 0, .int .i64 0, .string ⟨#[]⟩, .int .i64 0, .string ⟨#[]⟩] 55)) 234 #[.string T, .int .i64 0, .bool false]
 have hZ := KZ.out.alloc (.cells #[.string T, .int .i64 0, .bool false] 234)
 have he := KE.out.new (.cells #[.string T, .int .i64 0, .bool false] 234)
 simp only [World.size_alloc] at hB
 clear KZ KE
 obtain ⟨g, hg⟩ : ∃ g, g = w.heap.size := ⟨_, rfl⟩
 rw [← hg] at hB hZ
 rw [← hg]
 have Hg : w.heap.size ≤ g := by omega
 clear hg
 refine (rHead_any (g + 1) T rh0 m _ hB (Nat.zero_le _) hT (by omega)).mono ?_
 rintro e w1 ⟨rfl, hB, hx⟩
 replace hZ := hZ.extBut hx (by omega); replace he := he.nextBut (by omega) hx; clear hx
 obtain ⟨d, hd⟩ : ∃ d, d = rhD T rh0 m := ⟨_, rfl⟩
 rw [← hd]
 rw [← hd] at Hfin
 have Hd := Lib.hid hd
 clear hd
 have hgl := hZ.lt
 have hgl1 := hB.lt
 go_wp2_with fail
 have hD := Blk.new w1 55 #[.int .i64 d.number, .int .i64 d.size, .string d.root, .int .i64 d.taken, .string d.takenRoot]
 replace hZ := hZ.alloc (.cells #[.int .i64 d.number, .int .i64 d.size, .string d.root, .int .i64 d.taken, .string d.takenRoot] 55)
 replace hB := hB.alloc (.cells #[.int .i64 d.number, .int .i64 d.size, .string d.root, .int .i64 d.taken, .string d.takenRoot] 55)
 replace he := he.new (.cells #[.int .i64 d.number, .int .i64 d.size, .string d.root, .int .i64 d.taken, .string d.takenRoot] 55)
 obtain ⟨g2, hg2⟩ : ∃ g2, g2 = w1.heap.size := ⟨_, rfl⟩
 rw [← hg2] at hD hgl hgl1
 rw [← hg2]
 clear hg2
 generalize w1.alloc (.cells #[.int .i64 d.number, .int .i64 d.size, .string d.root, .int .i64 d.taken, .string d.takenRoot] 55) = w2 at *
 refine (done_any _ T (rh5 T rh0 m) w2 hB).mono ?_
 rintro e w3 ⟨rfl, k, rfl⟩
 replace hZ := hZ.drewN k; replace hD := hD.drewN k; replace he := he.drewN k
 clear hB
 generalize w2.drewN k = w4 at *
 obtain ⟨dc, df⟩ := hD.rules
 obtain ⟨zc, zf⟩ := hZ.rules
 cases b2 : rdDone T (rh5 T rh0 m)
 · have Hi := Lib.hid (show fin = hrRes false d by rw [Hfin.out, b2]; rfl)
   clear Hfin
   go_wp2_with fail
   have hz := hZ.put 0 HeadD.zero.cells HeadD.zero.cells.toArray (by decide) rfl
   have hx := ext_setCells (W := w) (g := g) Hg HeadD.zero.cells 0 w4 he
   refine ret_row_tmp rfl rfl hz Tryz.underlying55 rfl (by kernel_rfl) rfl ⟨?_, hx⟩
   rw [Hi.out]; rfl
 cases b3 : headOk (m : Int) d
 · have Hi := Lib.hid (show fin = hrRes false d by rw [Hfin.out, b2, b3]; rfl)
   clear Hfin
   go_wp2_with fail
   refine (implHeadOk_any _ d w4).mono ?_
   rintro e w5 ⟨rfl, h1⟩
   replace hZ := hZ.ext h1; replace hD := hD.ext h1; replace he := he.next h1
   clear h1 dc df zc zf
   obtain ⟨zc, zf⟩ := hZ.rules
   go_wp2_with fail
   have hz := hZ.put 0 HeadD.zero.cells HeadD.zero.cells.toArray (by decide) rfl
   have hx := ext_setCells (W := w) (g := g) Hg HeadD.zero.cells 0 w5 he
   refine ret_row_tmp rfl rfl hz Tryz.underlying55 rfl (by kernel_rfl) rfl ⟨?_, hx⟩
   rw [Hi.out]; rfl
 · have Hi := Lib.hid (show fin = hrRes true d by rw [Hfin.out, b2, b3]; rfl)
   clear Hfin
   go_wp2_with fail
   refine (implHeadOk_any _ d w4).mono ?_
   rintro e w5 ⟨rfl, h1⟩
   replace hZ := hZ.ext h1; replace hD := hD.ext h1; replace he := he.next h1
   clear h1 dc df zc zf
   obtain ⟨zc, zf⟩ := hZ.rules
   obtain ⟨dc, df⟩ := hD.rules
   go_wp2_with fail
   have hz := hZ.put 0 d.cells d.cells.toArray (by simp [HeadD.cells]) rfl
   have hx := ext_setCells (W := w) (g := g) Hg d.cells 0 w5 he
   refine ret_row_tmp rfl rfl hz Tryz.underlying55 rfl (by kernel_rfl) rfl ⟨?_, hx⟩
   rw [Hi.out]; rfl
set_option maxHeartbeats 4000000 in
set_option maxRecDepth 100000 in
theorem specReadHead_any (n : Int) (T : ByteArray) (w : World) (hT : T.size ≤ 1099511627776) :
 Calls Tryz.prog 69 #[.int .i64 n, .string T] w fun e w' => e = hrRes (hrSpec n T) (hrD n T) ∧ Ext w w' := by
 have Z0 := Blk.new w 55 #[.int .i64 0, .int .i64 0, .string ⟨#[]⟩, .int .i64 0, .string ⟨#[]⟩]
 have He0 := Ext.new (Below.refl w.heap.size w) (.cells #[.int .i64 0, .int .i64 0, .string ⟨#[]⟩, .int .i64 0, .string ⟨#[]⟩] 55)
 cases b1 : inR n 1 32
 · have Hi := Lib.hid (show hrSpec n T = false by simp [hrSpec, b1])
   obtain ⟨zc, zf⟩ := Z0.rules
   go_enter Tryz.func69, Tryz.ntmps69
   go_wp2_with (go_at_call 129; refine (l02Width_any _ _).mono ?_; rintro e w' ⟨rfl, rfl⟩)
   refine ret_row_tmp rfl rfl Z0 Tryz.underlying55 rfl (by kernel_rfl) rfl ⟨?_, He0⟩
   rw [Hi.out]; rfl
 obtain ⟨lw0, lw1⟩ := inR_true b1
 obtain ⟨m, rfl⟩ := Int.eq_ofNat_of_zero_le (show 0 ≤ n by omega)
 obtain ⟨fin, hfin⟩ : ∃ fin, fin = hrRes (hrSpec (m : Int) T) (hrD (m : Int) T) := ⟨_, rfl⟩
 rw [← hfin]
 have hD0 : hrD (m : Int) T = rhD T rh0 m := by simp [hrD]
 have hI0 : hrSpec (m : Int) T = (!(rh5 T rh0 m).bad && (headOk (m : Int) (rhD T rh0 m) && ((headText (m : Int) (rhD T rh0 m)).toList == T.toList))) := by simp only [hrSpec, b1, hD0, Int.toNat_natCast, Bool.true_and]
 rw [hD0, hI0] at hfin
 have Hfin := Lib.hid hfin
 have KZ := Lib.hid Z0
 have KE := Lib.hid He0
 clear hfin hD0 hI0 Z0 He0
 go_enter Tryz.func69, Tryz.ntmps69
 go_wp2_with (go_at_call 129; refine (l02Width_any _ _).mono ?_; rintro e w' ⟨rfl, rfl⟩)
 have hB : Blk _ _ 172 (rdCells T rh0) := Blk.new (w.alloc (.cells #[.int .i64 0, .int .i64 0, .string ⟨#[]⟩, .int .i64 0, .string ⟨#[]⟩] 55)) 172 #[.string T, .int .i64 0, .bool false]
 have hZ := KZ.out.alloc (.cells #[.string T, .int .i64 0, .bool false] 172)
 have he := KE.out.new (.cells #[.string T, .int .i64 0, .bool false] 172)
 simp only [World.size_alloc] at hB
 clear KZ KE
 obtain ⟨g, hg⟩ : ∃ g, g = w.heap.size := ⟨_, rfl⟩
 rw [← hg] at hB hZ
 rw [← hg]
 have Hg : w.heap.size ≤ g := by omega
 clear hg
 refine (l10Read_any (g + 1) T rh0 m _ hB (Nat.zero_le _) hT (by omega)).mono ?_
 rintro e w1 ⟨rfl, hB, hx⟩
 replace hZ := hZ.extBut hx (by omega); replace he := he.nextBut (by omega) hx; clear hx
 obtain ⟨d, hd⟩ : ∃ d, d = rhD T rh0 m := ⟨_, rfl⟩
 rw [← hd]
 rw [← hd] at Hfin
 have Hd := Lib.hid hd
 clear hd
 have hgl := hZ.lt
 have hgl1 := hB.lt
 go_wp2_with fail
 have hD := Blk.new w1 55 #[.int .i64 d.number, .int .i64 d.size, .string d.root, .int .i64 d.taken, .string d.takenRoot]
 replace hZ := hZ.alloc (.cells #[.int .i64 d.number, .int .i64 d.size, .string d.root, .int .i64 d.taken, .string d.takenRoot] 55)
 replace hB := hB.alloc (.cells #[.int .i64 d.number, .int .i64 d.size, .string d.root, .int .i64 d.taken, .string d.takenRoot] 55)
 replace he := he.new (.cells #[.int .i64 d.number, .int .i64 d.size, .string d.root, .int .i64 d.taken, .string d.takenRoot] 55)
 obtain ⟨g2, hg2⟩ : ∃ g2, g2 = w1.heap.size := ⟨_, rfl⟩
 rw [← hg2] at hD hgl hgl1
 rw [← hg2]
 clear hg2
 generalize w1.alloc (.cells #[.int .i64 d.number, .int .i64 d.size, .string d.root, .int .i64 d.taken, .string d.takenRoot] 55) = w2 at *
 refine (specHeadText_any (m : Int) d w2).mono ?_
 rintro e w4 ⟨rfl, h1⟩
 replace hZ := hZ.ext h1; replace hD := hD.ext h1; replace hB := hB.ext h1; replace he := he.next h1
 clear h1
 obtain ⟨dc, df⟩ := hD.rules
 obtain ⟨zc, zf⟩ := hZ.rules
 have q2 : w4.cell? ⟨g + 1, 2, none⟩ = some (.bool (rh5 T rh0 m).bad) := hB.cell 2
 have q2f := hB.frozen 2
 cases b2 : (rh5 T rh0 m).bad
 case true =>
  have Hi := Lib.hid (show fin = hrRes false d by rw [Hfin.out, b2]; rfl)
  rw [b2] at q2
  clear Hfin
  go_wp2_with fail
  have hz := hZ.put 0 HeadD.zero.cells HeadD.zero.cells.toArray (by decide) rfl
  have hx := ext_setCells (W := w) (g := g) Hg HeadD.zero.cells 0 w4 he
  refine ret_row_tmp rfl rfl hz Tryz.underlying55 rfl (by kernel_rfl) rfl ⟨?_, hx⟩
  rw [Hi.out]; rfl
 rw [b2] at q2
 cases b3 : headOk (m : Int) d
 · have Hi := Lib.hid (show fin = hrRes false d by rw [Hfin.out, b2, b3]; rfl)
   clear Hfin
   go_wp2_with fail
   have hz := hZ.put 0 HeadD.zero.cells HeadD.zero.cells.toArray (by decide) rfl
   have hx := ext_setCells (W := w) (g := g) Hg HeadD.zero.cells 0 w4 he
   refine ret_row_tmp rfl rfl hz Tryz.underlying55 rfl (by kernel_rfl) rfl ⟨?_, hx⟩
   rw [Hi.out]; rfl
 cases b4 : ((headText (m : Int) d).toList == T.toList)
 · have Hi := Lib.hid (show fin = hrRes false d by rw [Hfin.out, b2, b3, b4]; rfl)
   have b4' : ((headText (m : Int) d).toList != T.toList) = true := by rw [bne, b4]; rfl
   clear Hfin
   go_wp2_with fail
   have hz := hZ.put 0 HeadD.zero.cells HeadD.zero.cells.toArray (by decide) rfl
   have hx := ext_setCells (W := w) (g := g) Hg HeadD.zero.cells 0 w4 he
   refine ret_row_tmp rfl rfl hz Tryz.underlying55 rfl (by kernel_rfl) rfl ⟨?_, hx⟩
   rw [Hi.out]; rfl
 · have Hi := Lib.hid (show fin = hrRes true d by rw [Hfin.out, b2, b3, b4]; rfl)
   have b4' : ((headText (m : Int) d).toList != T.toList) = false := by rw [bne, b4]; rfl
   clear Hfin
   go_wp2_with fail
   have hz := hZ.put 0 d.cells d.cells.toArray (by simp [HeadD.cells]) rfl
   have hx := ext_setCells (W := w) (g := g) Hg d.cells 0 w4 he
   refine ret_row_tmp rfl rfl hz Tryz.underlying55 rfl (by kernel_rfl) rfl ⟨?_, hx⟩
   rw [Hi.out]; rfl
end Go.Proofs.YtlgdghpnfclgpaaGreat
