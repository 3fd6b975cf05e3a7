/-
  ReadHead: walks, and that the two agree. No condition.
-/
import Derived.Test.YtaicjimppcledaaHeadRead
import Derived.Test.YtaicjimppcledaaReread
import Derived.Test.YtaicjimppcledaaTexts
namespace Go.Proofs.Ytaicjimppcledaa
open Go.RowKit
set_option linter.unusedVariables false

def headT (h : HeadD) : ByteArray := lowB h.number.toNat 2 ++ lowB h.size.toNat 2 ++ h.root ++ lowB h.taken.toNat 2 ++ h.takenRoot
def headText (n : Int) (h : HeadD) : ByteArray := if headOk n h then headT h else ⟨#[]⟩
theorem headOk_bounds {n : Int} {h : HeadD} (hk : headOk n h = true) : 1 ≤ n ∧ n ≤ 32 ∧ 0 ≤ h.number ∧ h.number ≤ 399 ∧ 0 ≤ h.size ∧ h.size ≤ 512 ∧ (h.root.size : Int) = n ∧ 0 ≤ h.taken ∧ h.taken ≤ 512 ∧ (h.takenRoot.size : Int) = n := by
  simp only [headOk, rootB, Bool.and_eq_true, beq_iff_eq] at hk
  obtain ⟨⟨⟨h1, h2⟩, ⟨h3, h4⟩, _⟩, ⟨h5, h6⟩, _⟩ := hk
  have := inR_true h1
  have := inR_true h2
  have := inR_true h3
  have := inR_true h5
  omega
set_option maxHeartbeats 2000000 in
set_option maxRecDepth 100000 in
theorem specHeadText_any (n : Int) (d : HeadD) (w : World) : Calls Try.prog 72 #[.int .i64 n, .agg #[.int .i64 d.number, .int .i64 d.size, .string d.root, .int .i64 d.taken, .string d.takenRoot]] w fun e w' => e = .returned (.tuple #[.string (headText n d), .bool (headOk n d)]) ∧ Ext w w' := by
  have K0 := Lib.hid (Blk.new w 38 #[.int .i64 d.number, .int .i64 d.size, .string d.root, .int .i64 d.taken, .string d.takenRoot])
  have He := Lib.hid (Ext.new (Below.refl w.heap.size w) (.cells #[.int .i64 d.number, .int .i64 d.size, .string d.root, .int .i64 d.taken, .string d.takenRoot] 38))
  cases b : headOk n d
  · have Ht := Lib.hid (show headText n d = ⟨#[]⟩ by simp [headText, b])
    go_enter Try.func72, Try.ntmps72
    go_wp2_with fail
    refine (specHeadOk_any n d _).mono ?_
    rintro e w1 ⟨rfl, h1⟩
    have he := He.out.next h1
    go_wp2_with fail
    go_ret2
    exact ⟨by rw [Ht.out]; rfl, he⟩
  · have Ht := Lib.hid (show headText n d = lowB d.number.toNat 2 ++ lowB d.size.toNat 2 ++ d.root ++ lowB d.taken.toNat 2 ++ d.takenRoot by simp [headText, b, headT])
    obtain ⟨z0, z1, z2, z3, z4, z5, z6, z7, z8, z9⟩ := headOk_bounds b
    have y1 : (lowB d.number.toNat 2).size ≤ 2 := by rw [lowB_size]; exact Nat.le_refl _
    have y2 : (lowB d.size.toNat 2).size ≤ 2 := by rw [lowB_size]; exact Nat.le_refl _
    have y3 : (lowB d.taken.toNat 2).size ≤ 2 := by rw [lowB_size]; exact Nat.le_refl _
    have n1 : ¬ 9223372036854775807 < (lowB d.number.toNat 2).size + (lowB d.size.toNat 2).size := by omega
    have n2 : ¬ 9223372036854775807 < (lowB d.number.toNat 2).size + (lowB d.size.toNat 2).size + d.root.size := by omega
    have n3 : ¬ 9223372036854775807 < (lowB d.number.toNat 2).size + (lowB d.size.toNat 2).size + d.root.size + (lowB d.taken.toNat 2).size := by omega
    have n4 : ¬ 9223372036854775807 < (lowB d.number.toNat 2).size + (lowB d.size.toNat 2).size + d.root.size + (lowB d.taken.toNat 2).size + d.takenRoot.size := by omega
    clear z0 z1 z6 z9
    go_enter Try.func72, Try.ntmps72
    go_wp2_with fail
    obtain ⟨g, hg⟩ : ∃ g, g = w.heap.size := ⟨_, rfl⟩
    rw [← hg] at K0
    rw [← hg]
    clear hg
    refine (specHeadOk_any n d _).mono ?_
    rintro e w1 ⟨rfl, h1⟩
    have he := He.out.next h1
    have hB := K0.out.ext h1
    clear h1 K0 He
    have c0 := hB.cell 0
    have c1 := hB.cell 1
    have c2 := hB.cell 2
    have c3 := hB.cell 3
    have c4 := hB.cell 4
    go_wp2_with fail
    go_region_held3 (fun w' => w'.cell? ⟨g, 0, none⟩ = some (.int .i64 d.number) ∧ w'.cell? ⟨g, 1, none⟩ = some (.int .i64 d.size) ∧ w'.cell? ⟨g, 2, none⟩ = some (.string d.root) ∧ w'.cell? ⟨g, 3, none⟩ = some (.int .i64 d.taken) ∧ w'.cell? ⟨g, 4, none⟩ = some (.string d.takenRoot) ∧ Blk w' g 38 #[.int .i64 d.number, .int .i64 d.size, .string d.root, .int .i64 d.taken, .string d.takenRoot] ∧ Ext w w')
      (first
        | exact ⟨c0, c1, c2, c3, c4, hB.drew, he.drew⟩
        | (go_split_ands; refine ⟨?_, ?_, ?_, ?_, ?_, ?_, ?_⟩ <;> assumption)
        | (go_split_ands; have hB' := Blk.ext (by assumption) h1; exact ⟨hB'.cell 0, hB'.cell 1, hB'.cell 2, hB'.cell 3, hB'.cell 4, hB', Ext.next (by assumption) h1⟩))
      (first
        | (go_at_call 100; refine (l03NumberI_any _ 2 _ (by omega) (by omega) (by decide)).mono ?_; rintro e w' ⟨rfl, h1⟩))
    all_goals
      go_wp2_with fail
      go_ret2
      refine ⟨by rw [Ht.out]; rfl, ?_⟩
      go_split_ands
      assumption
def rh0 : Rd := ⟨0, false⟩
def hrD (n : Int) (T : ByteArray) : HeadD := rhD T rh0 n.toNat
def hrImpl (n : Int) (T : ByteArray) : Bool := inR n 1 32 && (rdDone T (rh5 T rh0 n.toNat) && headOk n (hrD n T))
def hrSpec (n : Int) (T : ByteArray) : Bool := inR n 1 32 && (!(rh5 T rh0 n.toNat).bad && (headOk n (hrD n T) && ((headText n (hrD n T)).toList == T.toList)))
theorem two_low (b : ByteArray) (h : b.size = 2) : lowB (beNum b) 2 = b := by
  rw [lowB_two]; exact two_of b h
theorem hr_same (n : Int) (T : ByteArray) : hrImpl n T = hrSpec n T := by
  unfold hrImpl hrSpec
  cases hw : inR n 1 32
  · rfl
  simp only [Bool.true_and]
  cases hb : (rh5 T rh0 n.toNat).bad
  · cases hk : headOk n (hrD n T)
    · simp
    · have h5 := rdNext_ok hb
      have h4 := rdNext_ok h5.1
      have h3 := rdNext_ok h4.1
      have h2 := rdNext_ok h3.1
      have h1 := rdNext_ok h2.1
      have p1 := two_low _ (rdTake_full h2.1)
      have p2 := two_low _ (rdTake_full h3.1)
      have p4 := two_low _ (rdTake_full h5.1)
      have hS : Sofar T (rh5 T rh0 n.toNat) (((((⟨#[]⟩ ++ rdTake T rh0 2) ++ rdTake T (rh1 T rh0) 2) ++ rdTake T (rh2 T rh0) n.toNat) ++ rdTake T (rh3 T rh0 n.toNat) 2) ++ rdTake T (rh4 T rh0 n.toNat) n.toNat) :=
        (((((Sofar.start T).take 2).take 2).take _).take 2).take _
      rw [← p1, ← p2, ← p4] at hS
      have hE : headT (hrD n T) = ((((lowB (beNum (rdTake T rh0 2)) 2 ++ lowB (beNum (rdTake T (rh1 T rh0) 2)) 2) ++ rdTake T (rh2 T rh0) n.toNat) ++ lowB (beNum (rdTake T (rh3 T rh0 n.toNat) 2)) 2) ++ rdTake T (rh4 T rh0 n.toNat) n.toNat) := by
        simp only [headT, hrD, rhD, Int.toNat_natCast]
      rw [show (⟨#[]⟩ : ByteArray) ++ lowB (beNum (rdTake T rh0 2)) 2 = lowB (beNum (rdTake T rh0 2)) 2 from ByteArray.empty_append, ← hE] at hS
      have h := reread (k := ⟨#[]⟩) (K := ⟨#[]⟩) (by rw [show (⟨#[]⟩ : ByteArray) ++ headT (hrD n T) = headT (hrD n T) from ByteArray.empty_append]; exact hS) hb rfl
      rw [show (⟨#[]⟩ : ByteArray) ++ headT (hrD n T) = headT (hrD n T) from ByteArray.empty_append] at h
      simp only [decide_true, Bool.true_and] at h
      rw [h, headText, hk, bytes_beq]
      simp
  · rw [reread_bad hb]; simp
def hrOut (ok : Bool) (d : HeadD) : HeadD := if ok then d else ⟨0, 0, ⟨#[]⟩, 0, ⟨#[]⟩⟩
def hrRes (ok : Bool) (d : HeadD) : Ending := .returned (.tuple #[.agg (hrOut ok d).cells.toArray, .bool ok])
def HeadD.zero : HeadD := ⟨0, 0, ⟨#[]⟩, 0, ⟨#[]⟩⟩
end Go.Proofs.Ytaicjimppcledaa
