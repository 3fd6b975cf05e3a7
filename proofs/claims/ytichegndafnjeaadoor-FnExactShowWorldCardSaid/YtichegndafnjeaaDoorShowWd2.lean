/-
  ShowWorld: the program's side, a walk. Written by program (gen_showworld2.py). No condition.
-/
import Derived.Test.YtichegndafnjeaaDoorShowWd0
namespace Go.Proofs.YtichegndafnjeaaDoor
open Go.RowKit
set_option linter.unusedVariables false
set_option linter.unusedSimpArgs false

set_option maxHeartbeats 2000000 in
set_option maxRecDepth 100000 in
theorem implShowWorld_core (cs : List Value) (A0 A1 A2 A3 : Option Addr) (c0 c1 c2 c3 n0 n1 n2 n3 : Nat) (l : List HeadD) (w : World) (hl2 : l.length = n2) (h1 : cs[1]? = some (.slice A0 n0 c0)) (h2 : cs[2]? = some (.slice A1 n1 c1)) (h3 : cs[3]? = some (.slice A2 n2 c2)) (h15 : cs[15]? = some (.slice A3 n3 c3)) (hl : cs.length = 17)
    (s : SlF AnyB HeadD.cells 5 w A2 l c2) (m0 : n0 ≤ maxLen) (m1 : n1 ≤ maxLen) (m3 : n3 ≤ maxLen) (hok : ∀ x ∈ l, x.root.size ≤ maxLen) (ht : Tab w) :
    Calls Tryd.prog 7 #[.agg cs.toArray] w fun e w' => e = .returned (.string (worldLine n0 n1 n2 n3 (rootWord l))) ∧ Ext w w' := by
  have m2 : n2 ≤ maxLen := by rw [← hl2]; exact s.len
  have sr := s
  unfold maxLen at m0 m1 m2 m3 hok
  have HD0 := Lib.hid (decT_size (n0 : Int) (by omega) (by omega))
  have HD1 := Lib.hid (decT_size (n1 : Int) (by omega) (by omega))
  have HD2 := Lib.hid (decT_size (n2 : Int) (by omega) (by omega))
  have HD3 := Lib.hid (decT_size (n3 : Int) (by omega) (by omega))
  have HR := Lib.hid (rootWord_size l)
  obtain ⟨rr, hrr⟩ : ∃ rr, rr = rootWord l := ⟨_, rfl⟩
  rw [← hrr] at HR
  rw [← hrr]
  have az1 : ¬ 9223372036854775807 < 8 + (decT (n0 : Int)).size := by have := HD0.out; have := HD1.out; have := HD2.out; have := HD3.out; have := HR.out; omega
  have ay1 : ¬ 9223372036854775807 < ((⟨#[101, 110, 116, 114, 105, 101, 115, 32]⟩ : ByteArray)).size + (decT (n0 : Int)).size := by exact az1
  have az2 : ¬ 9223372036854775807 < 8 + (decT (n0 : Int)).size + 10 := by have := HD0.out; have := HD1.out; have := HD2.out; have := HD3.out; have := HR.out; omega
  have ay2 : ¬ 9223372036854775807 < ((⟨#[101, 110, 116, 114, 105, 101, 115, 32]⟩ : ByteArray) ++ (decT (n0 : Int))).size + (⟨#[32, 114, 101, 99, 101, 105, 112, 116, 115, 32]⟩ : ByteArray).size := by rw [ByteArray.size_append]; exact az2
  have ax2 : ¬ 9223372036854775807 < ((⟨#[101, 110, 116, 114, 105, 101, 115, 32]⟩ : ByteArray) ++ (decT (n0 : Int))).size + 10 := ay2
  have az3 : ¬ 9223372036854775807 < 8 + (decT (n0 : Int)).size + 10 + (decT (n1 : Int)).size := by have := HD0.out; have := HD1.out; have := HD2.out; have := HD3.out; have := HR.out; omega
  have ay3 : ¬ 9223372036854775807 < ((⟨#[101, 110, 116, 114, 105, 101, 115, 32]⟩ : ByteArray) ++ (decT (n0 : Int)) ++ (⟨#[32, 114, 101, 99, 101, 105, 112, 116, 115, 32]⟩ : ByteArray)).size + (decT (n1 : Int)).size := by rw [ByteArray.size_append, ByteArray.size_append]; exact az3
  have bz1 : ¬ 9223372036854775807 < 7 + (decT (n2 : Int)).size := by have := HD0.out; have := HD1.out; have := HD2.out; have := HD3.out; have := HR.out; omega
  have by1 : ¬ 9223372036854775807 < ((⟨#[32, 104, 101, 97, 100, 115, 32]⟩ : ByteArray)).size + (decT (n2 : Int)).size := by exact bz1
  have bz2 : ¬ 9223372036854775807 < 7 + (decT (n2 : Int)).size + 7 := by have := HD0.out; have := HD1.out; have := HD2.out; have := HD3.out; have := HR.out; omega
  have by2 : ¬ 9223372036854775807 < ((⟨#[32, 104, 101, 97, 100, 115, 32]⟩ : ByteArray) ++ (decT (n2 : Int))).size + (⟨#[32, 103, 105, 118, 101, 110, 32]⟩ : ByteArray).size := by rw [ByteArray.size_append]; exact bz2
  have bx2 : ¬ 9223372036854775807 < ((⟨#[32, 104, 101, 97, 100, 115, 32]⟩ : ByteArray) ++ (decT (n2 : Int))).size + 7 := by2
  have bz3 : ¬ 9223372036854775807 < 7 + (decT (n2 : Int)).size + 7 + (decT (n3 : Int)).size := by have := HD0.out; have := HD1.out; have := HD2.out; have := HD3.out; have := HR.out; omega
  have by3 : ¬ 9223372036854775807 < ((⟨#[32, 104, 101, 97, 100, 115, 32]⟩ : ByteArray) ++ (decT (n2 : Int)) ++ (⟨#[32, 103, 105, 118, 101, 110, 32]⟩ : ByteArray)).size + (decT (n3 : Int)).size := by rw [ByteArray.size_append, ByteArray.size_append]; exact bz3
  have jz : ¬ 9223372036854775807 < 8 + (decT (n0 : Int)).size + 10 + (decT (n1 : Int)).size + (7 + (decT (n2 : Int)).size + 7 + (decT (n3 : Int)).size) := by have := HD0.out; have := HD1.out; have := HD2.out; have := HD3.out; have := HR.out; omega
  have jy : ¬ 9223372036854775807 < ((⟨#[101, 110, 116, 114, 105, 101, 115, 32]⟩ : ByteArray) ++ (decT (n0 : Int)) ++ (⟨#[32, 114, 101, 99, 101, 105, 112, 116, 115, 32]⟩ : ByteArray) ++ (decT (n1 : Int))).size + ((⟨#[32, 104, 101, 97, 100, 115, 32]⟩ : ByteArray) ++ (decT (n2 : Int)) ++ (⟨#[32, 103, 105, 118, 101, 110, 32]⟩ : ByteArray) ++ (decT (n3 : Int))).size := by simp only [ByteArray.size_append]; exact jz
  have j0z : ¬ 9223372036854775807 < 8 + (decT (n0 : Int)).size + 10 + (decT (n1 : Int)).size + (7 + (decT (n2 : Int)).size + 7 + (decT (n3 : Int)).size) + 6 := by have := HD0.out; have := HD1.out; have := HD2.out; have := HD3.out; have := HR.out; omega
  have j0y : ¬ 9223372036854775807 < (((⟨#[101, 110, 116, 114, 105, 101, 115, 32]⟩ : ByteArray) ++ (decT (n0 : Int)) ++ (⟨#[32, 114, 101, 99, 101, 105, 112, 116, 115, 32]⟩ : ByteArray) ++ (decT (n1 : Int))) ++ ((⟨#[32, 104, 101, 97, 100, 115, 32]⟩ : ByteArray) ++ (decT (n2 : Int)) ++ (⟨#[32, 103, 105, 118, 101, 110, 32]⟩ : ByteArray) ++ (decT (n3 : Int)))).size + (⟨#[32, 114, 111, 111, 116, 32]⟩ : ByteArray).size := by simp only [ByteArray.size_append]; exact j0z
  have j0x : ¬ 9223372036854775807 < (((⟨#[101, 110, 116, 114, 105, 101, 115, 32]⟩ : ByteArray) ++ (decT (n0 : Int)) ++ (⟨#[32, 114, 101, 99, 101, 105, 112, 116, 115, 32]⟩ : ByteArray) ++ (decT (n1 : Int))) ++ ((⟨#[32, 104, 101, 97, 100, 115, 32]⟩ : ByteArray) ++ (decT (n2 : Int)) ++ (⟨#[32, 103, 105, 118, 101, 110, 32]⟩ : ByteArray) ++ (decT (n3 : Int)))).size + 6 := j0y
  have j1z : ¬ 9223372036854775807 < 8 + (decT (n0 : Int)).size + 10 + (decT (n1 : Int)).size + (7 + (decT (n2 : Int)).size + 7 + (decT (n3 : Int)).size) + 6 + rr.size := by have := HD0.out; have := HD1.out; have := HD2.out; have := HD3.out; have := HR.out; omega
  have j1y : ¬ 9223372036854775807 < ((((⟨#[101, 110, 116, 114, 105, 101, 115, 32]⟩ : ByteArray) ++ (decT (n0 : Int)) ++ (⟨#[32, 114, 101, 99, 101, 105, 112, 116, 115, 32]⟩ : ByteArray) ++ (decT (n1 : Int))) ++ ((⟨#[32, 104, 101, 97, 100, 115, 32]⟩ : ByteArray) ++ (decT (n2 : Int)) ++ (⟨#[32, 103, 105, 118, 101, 110, 32]⟩ : ByteArray) ++ (decT (n3 : Int)))) ++ (⟨#[32, 114, 111, 111, 116, 32]⟩ : ByteArray)).size + rr.size := by simp only [ByteArray.size_append]; exact j1z
  have j2z : ¬ 9223372036854775807 < 8 + (decT (n0 : Int)).size + 10 + (decT (n1 : Int)).size + (7 + (decT (n2 : Int)).size + 7 + (decT (n3 : Int)).size) + 6 + rr.size + 1 := by have := HD0.out; have := HD1.out; have := HD2.out; have := HD3.out; have := HR.out; omega
  have j2y : ¬ 9223372036854775807 < (((((⟨#[101, 110, 116, 114, 105, 101, 115, 32]⟩ : ByteArray) ++ (decT (n0 : Int)) ++ (⟨#[32, 114, 101, 99, 101, 105, 112, 116, 115, 32]⟩ : ByteArray) ++ (decT (n1 : Int))) ++ ((⟨#[32, 104, 101, 97, 100, 115, 32]⟩ : ByteArray) ++ (decT (n2 : Int)) ++ (⟨#[32, 103, 105, 118, 101, 110, 32]⟩ : ByteArray) ++ (decT (n3 : Int)))) ++ (⟨#[32, 114, 111, 111, 116, 32]⟩ : ByteArray)) ++ rr).size + (⟨#[10]⟩ : ByteArray).size := by simp only [ByteArray.size_append]; exact j2z
  have j2x : ¬ 9223372036854775807 < (((((⟨#[101, 110, 116, 114, 105, 101, 115, 32]⟩ : ByteArray) ++ (decT (n0 : Int)) ++ (⟨#[32, 114, 101, 99, 101, 105, 112, 116, 115, 32]⟩ : ByteArray) ++ (decT (n1 : Int))) ++ ((⟨#[32, 104, 101, 97, 100, 115, 32]⟩ : ByteArray) ++ (decT (n2 : Int)) ++ (⟨#[32, 103, 105, 118, 101, 110, 32]⟩ : ByteArray) ++ (decT (n3 : Int)))) ++ (⟨#[32, 114, 111, 111, 116, 32]⟩ : ByteArray)) ++ rr).size + 1 := j2y
  have K := Lib.hid (Blk.new w 61 cs.toArray)
  have he := Ext.new (Below.refl w.heap.size w) (.cells cs.toArray 61)
  have r1 := (K.out.cell 1).trans (show cs.toArray[1]? = _ by simpa using h1)
  have r2 := (K.out.cell 2).trans (show cs.toArray[2]? = _ by simpa using h2)
  have r3 := (K.out.cell 3).trans (show cs.toArray[3]? = _ by simpa using h3)
  have r15 := (K.out.cell 15).trans (show cs.toArray[15]? = _ by simpa using h15)
  have glt := K.out.lt
  have HT := Lib.hid (ht.ext he)
  have DC := Lib.hid (fun n W a b t => implDecimal_any n W a b t)
  clear ht
  by_cases hz : n2 = 0
  · have E : Hid (rr = ⟨#[45]⟩) := Lib.hid (by rw [hrr]; unfold rootWord; rw [List.getElem?_eq_none (by omega)])
    have q0 : decide ((0 : Int) < (n2 : Int)) = false := by simp [hz]
    have q1 : decide (0 < n2) = false := by simp [hz]
    clear hrr hz hl2
    have R1 := r1; have R2 := r2; have R3 := r3; have R15 := r15; have GL := glt
    have HE := Lib.hid he
    go_enter Tryd.func7, Tryd.ntmps7
    go_upto_region 7 with fail
    rw [← E.out]
    obtain ⟨g, hg⟩ : ∃ g, g = w.heap.size := ⟨_, rfl⟩
    rw [← hg] at R1 R2 R3 R15 GL
    rw [← hg]
    clear hg
    generalize w.alloc _ = W at *
    go_region_held3 (fun w' => w'.cell? ⟨g, 1, none⟩ = some (.slice A0 n0 c0) ∧ w'.cell? ⟨g, 2, none⟩ = some (.slice A1 n1 c1) ∧ w'.cell? ⟨g, 3, none⟩ = some (.slice A2 n2 c2) ∧ w'.cell? ⟨g, 15, none⟩ = some (.slice A3 n3 c3) ∧ g < w'.heap.size ∧ Tab w' ∧ Ext w w')
      (first | exact ⟨R1, R2, R3, R15, GL, HT.out, HE.out.drew⟩ | (go_split_ands; refine ⟨?_, ?_, ?_, ?_, ?_, ?_, ?_⟩ <;> assumption) | (go_split_ands; exact ⟨(Below.cell (p := ⟨g, 1, none⟩) hh (by assumption)).trans (by assumption), (Below.cell (p := ⟨g, 2, none⟩) hh (by assumption)).trans (by assumption), (Below.cell (p := ⟨g, 3, none⟩) hh (by assumption)).trans (by assumption), (Below.cell (p := ⟨g, 15, none⟩) hh (by assumption)).trans (by assumption), Nat.lt_of_lt_of_le (by assumption) hh.size, Tab.ext (by assumption) hh, Ext.next (by assumption) hh⟩))
      (first | (go_at_call 23; go_split_ands; refine (DC.out _ _ (by omega) (by omega) (by assumption)).mono ?_; rintro e w' ⟨rfl, hh⟩))
    all_goals
      go_split_ands
      clear R1 R2 R3 R15 GL HT HE
      have V1 : w'.cell? ⟨g, 1, none⟩ = some (.slice A0 n0 c0) := by assumption
      have V2 : w'.cell? ⟨g, 2, none⟩ = some (.slice A1 n1 c1) := by assumption
      have V3 : w'.cell? ⟨g, 3, none⟩ = some (.slice A2 n2 c2) := by assumption
      have V15 : w'.cell? ⟨g, 15, none⟩ = some (.slice A3 n3 c3) := by assumption
      have VL : g < w'.heap.size := by assumption
      have VT := Lib.hid (show Tab w' by assumption)
      have VE := Lib.hid (show Ext w w' by assumption)
      go_upto_region 8 with fail
      go_region_held3 (fun w' => w'.cell? ⟨g, 1, none⟩ = some (.slice A0 n0 c0) ∧ w'.cell? ⟨g, 2, none⟩ = some (.slice A1 n1 c1) ∧ w'.cell? ⟨g, 3, none⟩ = some (.slice A2 n2 c2) ∧ w'.cell? ⟨g, 15, none⟩ = some (.slice A3 n3 c3) ∧ g < w'.heap.size ∧ Tab w' ∧ Ext w w')
        (first | exact ⟨V1, V2, V3, V15, VL, VT.out, VE.out.drew⟩ | (go_split_ands; refine ⟨?_, ?_, ?_, ?_, ?_, ?_, ?_⟩ <;> assumption) | (go_split_ands; exact ⟨(Below.cell (p := ⟨g, 1, none⟩) hh (by assumption)).trans (by assumption), (Below.cell (p := ⟨g, 2, none⟩) hh (by assumption)).trans (by assumption), (Below.cell (p := ⟨g, 3, none⟩) hh (by assumption)).trans (by assumption), (Below.cell (p := ⟨g, 15, none⟩) hh (by assumption)).trans (by assumption), Nat.lt_of_lt_of_le (by assumption) hh.size, Tab.ext (by assumption) hh, Ext.next (by assumption) hh⟩))
        (first | (go_at_call 23; go_split_ands; refine (DC.out _ _ (by omega) (by omega) (by assumption)).mono ?_; rintro e w' ⟨rfl, hh⟩))
      all_goals
        go_split_ands
        have he2 : Ext w w' := by assumption
        go_wp2_with fail
        go_ret
        refine ⟨congrArg (fun s => Ending.returned (.string s)) ?_, he2⟩
        unfold worldLine
        simp only [ByteArray.append_assoc]
  · obtain ⟨dh, hdh⟩ : ∃ dh, l[l.length - 1]? = some dh := ⟨_, List.getElem?_eq_getElem (by omega)⟩
    have hro := hok dh (List.mem_of_getElem? hdh)
    have HXc : Hid (∀ W, Calls Tryd.prog 22 #[.string dh.root] W fun e w' => e = .returned (.tuple #[.string (hexOr dh.root), .bool (decide (dh.root.size ≤ 4000))]) ∧ Ext W w') := Lib.hid (fun W => implHex_any dh.root W (by unfold maxLen; exact hro))
    have hrr2 : rr = if (decide (dh.root.size ≤ 4000) && !(hexOr dh.root).toList.isEmpty) = true then hexOr dh.root else ⟨#[45]⟩ := by rw [hrr]; unfold rootWord; rw [hdh]
    have q0 : decide ((0 : Int) < (n2 : Int)) = true := by simp; omega
    have q1 : decide (0 < n2) = true := by simp; omega
    obtain ⟨b, off, rfl, hbb, hc⟩ := sr.reads.at_ (k := l.length - 1) (by omega)
    obtain ⟨k, hk⟩ : ∃ k, k = l.length - 1 := ⟨_, rfl⟩
    rw [← hk] at hdh hc
    have d2 := hc 2 _ (flat_at _ 5 HeadD.cells_length l k 2 dh hdh (by omega))
    have D2 := (Below.cell (p := ⟨b, off + k * 5 + 2, none⟩) he hbb).trans d2
    have W0 : IntKind.i64.wrap ((n2 : Int) - 1) = (k : Int) := by rw [IntWalk.i64_in _ (by omega)]; omega
    have W1 : (n2 : Int) - 1 = (k : Int) := by omega
    have kn : k < n2 := by omega
    have kn2 : (k : Int) < (n2 : Int) := by omega
    have hle := sr.le
    rw [hl2] at hle
    clear d2 hc hbb hk hrr hz hl2 hdh hro hok sr s
    generalize hexOr dh.root = x at HXc hrr2
    generalize decide (dh.root.size ≤ 4000) = bb at HXc hrr2
    have HRR := Lib.hid hrr2
    clear hrr2
    go_enter Tryd.func7, Tryd.ntmps7
    go_wp2_with fail
    refine (HXc.out _).mono ?_
    rintro e w2 ⟨rfl, hh⟩
    have R1 := (Below.cell (p := ⟨w.heap.size, 1, none⟩) hh glt).trans r1
    have R2 := (Below.cell (p := ⟨w.heap.size, 2, none⟩) hh glt).trans r2
    have R3 := (Below.cell (p := ⟨w.heap.size, 3, none⟩) hh glt).trans r3
    have R15 := (Below.cell (p := ⟨w.heap.size, 15, none⟩) hh glt).trans r15
    have GL := Nat.lt_of_lt_of_le glt hh.size
    have HE := Lib.hid (he.next hh)
    replace HT := Lib.hid (HT.out.ext hh)
    clear hh he HXc W0 W1 kn kn2 D2 r1 r2 r3 r15 K
    cases bb
    · have E : Hid (rr = ⟨#[45]⟩) := Lib.hid (by rw [HRR.out]; rfl)
      go_upto_region 7 with fail
      rw [← E.out]
      obtain ⟨g, hg⟩ : ∃ g, g = w.heap.size := ⟨_, rfl⟩
      rw [← hg] at R1 R2 R3 R15 GL
      rw [← hg]
      clear hg
      clear HRR
      go_region_held3 (fun w' => w'.cell? ⟨g, 1, none⟩ = some (.slice A0 n0 c0) ∧ w'.cell? ⟨g, 2, none⟩ = some (.slice A1 n1 c1) ∧ w'.cell? ⟨g, 3, none⟩ = some (.slice (some ⟨b, off, none⟩) n2 c2) ∧ w'.cell? ⟨g, 15, none⟩ = some (.slice A3 n3 c3) ∧ g < w'.heap.size ∧ Tab w' ∧ Ext w w')
        (first | exact ⟨R1, R2, R3, R15, GL, HT.out, HE.out.drew⟩ | (go_split_ands; refine ⟨?_, ?_, ?_, ?_, ?_, ?_, ?_⟩ <;> assumption) | (go_split_ands; exact ⟨(Below.cell (p := ⟨g, 1, none⟩) hh (by assumption)).trans (by assumption), (Below.cell (p := ⟨g, 2, none⟩) hh (by assumption)).trans (by assumption), (Below.cell (p := ⟨g, 3, none⟩) hh (by assumption)).trans (by assumption), (Below.cell (p := ⟨g, 15, none⟩) hh (by assumption)).trans (by assumption), Nat.lt_of_lt_of_le (by assumption) hh.size, Tab.ext (by assumption) hh, Ext.next (by assumption) hh⟩))
        (first | (go_at_call 23; go_split_ands; refine (DC.out _ _ (by omega) (by omega) (by assumption)).mono ?_; rintro e w' ⟨rfl, hh⟩))
      all_goals
        go_split_ands
        clear R1 R2 R3 R15 GL HT HE
        have V1 : w'.cell? ⟨g, 1, none⟩ = some (.slice A0 n0 c0) := by assumption
        have V2 : w'.cell? ⟨g, 2, none⟩ = some (.slice A1 n1 c1) := by assumption
        have V3 : w'.cell? ⟨g, 3, none⟩ = some (.slice (some ⟨b, off, none⟩) n2 c2) := by assumption
        have V15 : w'.cell? ⟨g, 15, none⟩ = some (.slice A3 n3 c3) := by assumption
        have VL : g < w'.heap.size := by assumption
        have VT := Lib.hid (show Tab w' by assumption)
        have VE := Lib.hid (show Ext w w' by assumption)
        go_upto_region 8 with fail
        go_region_held3 (fun w' => w'.cell? ⟨g, 1, none⟩ = some (.slice A0 n0 c0) ∧ w'.cell? ⟨g, 2, none⟩ = some (.slice A1 n1 c1) ∧ w'.cell? ⟨g, 3, none⟩ = some (.slice (some ⟨b, off, none⟩) n2 c2) ∧ w'.cell? ⟨g, 15, none⟩ = some (.slice A3 n3 c3) ∧ g < w'.heap.size ∧ Tab w' ∧ Ext w w')
          (first | exact ⟨V1, V2, V3, V15, VL, VT.out, VE.out.drew⟩ | (go_split_ands; refine ⟨?_, ?_, ?_, ?_, ?_, ?_, ?_⟩ <;> assumption) | (go_split_ands; exact ⟨(Below.cell (p := ⟨g, 1, none⟩) hh (by assumption)).trans (by assumption), (Below.cell (p := ⟨g, 2, none⟩) hh (by assumption)).trans (by assumption), (Below.cell (p := ⟨g, 3, none⟩) hh (by assumption)).trans (by assumption), (Below.cell (p := ⟨g, 15, none⟩) hh (by assumption)).trans (by assumption), Nat.lt_of_lt_of_le (by assumption) hh.size, Tab.ext (by assumption) hh, Ext.next (by assumption) hh⟩))
          (first | (go_at_call 23; go_split_ands; refine (DC.out _ _ (by omega) (by omega) (by assumption)).mono ?_; rintro e w' ⟨rfl, hh⟩))
        all_goals
          go_split_ands
          have he2 : Ext w w' := by assumption
          go_wp2_with fail
          go_ret
          refine ⟨congrArg (fun s => Ending.returned (.string s)) ?_, he2⟩
          unfold worldLine
          simp only [ByteArray.append_assoc]
    cases q : x.toList.isEmpty
    · have E : Hid (rr = x) := Lib.hid (by rw [HRR.out, q]; rfl)
      go_upto_region 7 with fail
      rw [← E.out]
      obtain ⟨g, hg⟩ : ∃ g, g = w.heap.size := ⟨_, rfl⟩
      rw [← hg] at R1 R2 R3 R15 GL
      rw [← hg]
      clear hg
      clear HRR
      go_region_held3 (fun w' => w'.cell? ⟨g, 1, none⟩ = some (.slice A0 n0 c0) ∧ w'.cell? ⟨g, 2, none⟩ = some (.slice A1 n1 c1) ∧ w'.cell? ⟨g, 3, none⟩ = some (.slice (some ⟨b, off, none⟩) n2 c2) ∧ w'.cell? ⟨g, 15, none⟩ = some (.slice A3 n3 c3) ∧ g < w'.heap.size ∧ Tab w' ∧ Ext w w')
        (first | exact ⟨R1, R2, R3, R15, GL, HT.out, HE.out.drew⟩ | (go_split_ands; refine ⟨?_, ?_, ?_, ?_, ?_, ?_, ?_⟩ <;> assumption) | (go_split_ands; exact ⟨(Below.cell (p := ⟨g, 1, none⟩) hh (by assumption)).trans (by assumption), (Below.cell (p := ⟨g, 2, none⟩) hh (by assumption)).trans (by assumption), (Below.cell (p := ⟨g, 3, none⟩) hh (by assumption)).trans (by assumption), (Below.cell (p := ⟨g, 15, none⟩) hh (by assumption)).trans (by assumption), Nat.lt_of_lt_of_le (by assumption) hh.size, Tab.ext (by assumption) hh, Ext.next (by assumption) hh⟩))
        (first | (go_at_call 23; go_split_ands; refine (DC.out _ _ (by omega) (by omega) (by assumption)).mono ?_; rintro e w' ⟨rfl, hh⟩))
      all_goals
        go_split_ands
        clear R1 R2 R3 R15 GL HT HE
        have V1 : w'.cell? ⟨g, 1, none⟩ = some (.slice A0 n0 c0) := by assumption
        have V2 : w'.cell? ⟨g, 2, none⟩ = some (.slice A1 n1 c1) := by assumption
        have V3 : w'.cell? ⟨g, 3, none⟩ = some (.slice (some ⟨b, off, none⟩) n2 c2) := by assumption
        have V15 : w'.cell? ⟨g, 15, none⟩ = some (.slice A3 n3 c3) := by assumption
        have VL : g < w'.heap.size := by assumption
        have VT := Lib.hid (show Tab w' by assumption)
        have VE := Lib.hid (show Ext w w' by assumption)
        go_upto_region 8 with fail
        go_region_held3 (fun w' => w'.cell? ⟨g, 1, none⟩ = some (.slice A0 n0 c0) ∧ w'.cell? ⟨g, 2, none⟩ = some (.slice A1 n1 c1) ∧ w'.cell? ⟨g, 3, none⟩ = some (.slice (some ⟨b, off, none⟩) n2 c2) ∧ w'.cell? ⟨g, 15, none⟩ = some (.slice A3 n3 c3) ∧ g < w'.heap.size ∧ Tab w' ∧ Ext w w')
          (first | exact ⟨V1, V2, V3, V15, VL, VT.out, VE.out.drew⟩ | (go_split_ands; refine ⟨?_, ?_, ?_, ?_, ?_, ?_, ?_⟩ <;> assumption) | (go_split_ands; exact ⟨(Below.cell (p := ⟨g, 1, none⟩) hh (by assumption)).trans (by assumption), (Below.cell (p := ⟨g, 2, none⟩) hh (by assumption)).trans (by assumption), (Below.cell (p := ⟨g, 3, none⟩) hh (by assumption)).trans (by assumption), (Below.cell (p := ⟨g, 15, none⟩) hh (by assumption)).trans (by assumption), Nat.lt_of_lt_of_le (by assumption) hh.size, Tab.ext (by assumption) hh, Ext.next (by assumption) hh⟩))
          (first | (go_at_call 23; go_split_ands; refine (DC.out _ _ (by omega) (by omega) (by assumption)).mono ?_; rintro e w' ⟨rfl, hh⟩))
        all_goals
          go_split_ands
          have he2 : Ext w w' := by assumption
          go_wp2_with fail
          go_ret
          refine ⟨congrArg (fun s => Ending.returned (.string s)) ?_, he2⟩
          unfold worldLine
          simp only [ByteArray.append_assoc]
    · have E : Hid (rr = ⟨#[45]⟩) := Lib.hid (by rw [HRR.out, q]; rfl)
      go_upto_region 7 with fail
      rw [← E.out]
      obtain ⟨g, hg⟩ : ∃ g, g = w.heap.size := ⟨_, rfl⟩
      rw [← hg] at R1 R2 R3 R15 GL
      rw [← hg]
      clear hg
      clear HRR
      go_region_held3 (fun w' => w'.cell? ⟨g, 1, none⟩ = some (.slice A0 n0 c0) ∧ w'.cell? ⟨g, 2, none⟩ = some (.slice A1 n1 c1) ∧ w'.cell? ⟨g, 3, none⟩ = some (.slice (some ⟨b, off, none⟩) n2 c2) ∧ w'.cell? ⟨g, 15, none⟩ = some (.slice A3 n3 c3) ∧ g < w'.heap.size ∧ Tab w' ∧ Ext w w')
        (first | exact ⟨R1, R2, R3, R15, GL, HT.out, HE.out.drew⟩ | (go_split_ands; refine ⟨?_, ?_, ?_, ?_, ?_, ?_, ?_⟩ <;> assumption) | (go_split_ands; exact ⟨(Below.cell (p := ⟨g, 1, none⟩) hh (by assumption)).trans (by assumption), (Below.cell (p := ⟨g, 2, none⟩) hh (by assumption)).trans (by assumption), (Below.cell (p := ⟨g, 3, none⟩) hh (by assumption)).trans (by assumption), (Below.cell (p := ⟨g, 15, none⟩) hh (by assumption)).trans (by assumption), Nat.lt_of_lt_of_le (by assumption) hh.size, Tab.ext (by assumption) hh, Ext.next (by assumption) hh⟩))
        (first | (go_at_call 23; go_split_ands; refine (DC.out _ _ (by omega) (by omega) (by assumption)).mono ?_; rintro e w' ⟨rfl, hh⟩))
      all_goals
        go_split_ands
        clear R1 R2 R3 R15 GL HT HE
        have V1 : w'.cell? ⟨g, 1, none⟩ = some (.slice A0 n0 c0) := by assumption
        have V2 : w'.cell? ⟨g, 2, none⟩ = some (.slice A1 n1 c1) := by assumption
        have V3 : w'.cell? ⟨g, 3, none⟩ = some (.slice (some ⟨b, off, none⟩) n2 c2) := by assumption
        have V15 : w'.cell? ⟨g, 15, none⟩ = some (.slice A3 n3 c3) := by assumption
        have VL : g < w'.heap.size := by assumption
        have VT := Lib.hid (show Tab w' by assumption)
        have VE := Lib.hid (show Ext w w' by assumption)
        go_upto_region 8 with fail
        go_region_held3 (fun w' => w'.cell? ⟨g, 1, none⟩ = some (.slice A0 n0 c0) ∧ w'.cell? ⟨g, 2, none⟩ = some (.slice A1 n1 c1) ∧ w'.cell? ⟨g, 3, none⟩ = some (.slice (some ⟨b, off, none⟩) n2 c2) ∧ w'.cell? ⟨g, 15, none⟩ = some (.slice A3 n3 c3) ∧ g < w'.heap.size ∧ Tab w' ∧ Ext w w')
          (first | exact ⟨V1, V2, V3, V15, VL, VT.out, VE.out.drew⟩ | (go_split_ands; refine ⟨?_, ?_, ?_, ?_, ?_, ?_, ?_⟩ <;> assumption) | (go_split_ands; exact ⟨(Below.cell (p := ⟨g, 1, none⟩) hh (by assumption)).trans (by assumption), (Below.cell (p := ⟨g, 2, none⟩) hh (by assumption)).trans (by assumption), (Below.cell (p := ⟨g, 3, none⟩) hh (by assumption)).trans (by assumption), (Below.cell (p := ⟨g, 15, none⟩) hh (by assumption)).trans (by assumption), Nat.lt_of_lt_of_le (by assumption) hh.size, Tab.ext (by assumption) hh, Ext.next (by assumption) hh⟩))
          (first | (go_at_call 23; go_split_ands; refine (DC.out _ _ (by omega) (by omega) (by assumption)).mono ?_; rintro e w' ⟨rfl, hh⟩))
        all_goals
          go_split_ands
          have he2 : Ext w w' := by assumption
          go_wp2_with fail
          go_ret
          refine ⟨congrArg (fun s => Ending.returned (.string s)) ?_, he2⟩
          unfold worldLine
          simp only [ByteArray.append_assoc]
end Go.Proofs.YtichegndafnjeaaDoor
