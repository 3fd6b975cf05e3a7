/-
  LeafText: No condition.
-/
import Derived.Test.YtgeengkdgdjcjaaGreatLeaf
namespace Go.Proofs.YtgeengkdgdjcjaaGreat
set_option maxHeartbeats 2000000
set_option maxRecDepth 100000
set_option linter.unusedSimpArgs false
open Go.RowKit
set_option linter.unusedVariables false
theorem entryOk_bounds {d : EntryD} (h : entryOk d = true) : d.topic.size ≤ 20 ∧ 0 ≤ d.index ∧ d.index ≤ 511 ∧ 0 ≤ d.time ∧ d.time ≤ 1000000000 ∧ d.key.size ≤ 40 ∧ d.body.size ≤ 400 := by
 simp only [entryOk, partsB, Bool.and_eq_true, decide_eq_true_eq] at h
 obtain ⟨⟨h1, h2⟩, ⟨h3, h4⟩, h5⟩ := h
 have h6 := nameOk_size h1
 have h7 := inR_true h2
 have h8 := inR_true h3
 omega
theorem LeafText_any (d : EntryD) (w : World) (hd : d.Ok) : Calls Tryz.prog 86 #[.agg #[.string d.topic, .int .i64 d.index, .int .i64 d.time, .string d.key, .string d.body]] w fun e w' => e = .returned (.tuple #[.string (leafText d), .bool (entryOk d)]) ∧ Ext w w' := by
 cases b : entryOk d
 · have Ht := hU (show leafText d = ⟨#[]⟩ by simp [leafText, b])
   go_enter Tryz.func86, Tryz.ntmps86
   go_wp2_with fail
   have he := Ext.new (Below.refl w.heap.size w) (.cells #[.string d.topic, .int .i64 d.index, .int .i64 d.time, .string d.key, .string d.body] 56)
   refine (EntryOk_any d _ hd).mono ?_
   rintro e w1 ⟨rfl, h1⟩
   replace he := he.next h1
   go_wp2_with fail
   go_ret2
   exact ⟨by rw [Ht.out]; rfl, he⟩
 · have Ht := hU (show leafText d = leafT d by simp [leafText, b])
   obtain ⟨z1, z2, z3, z4, z5, z6, z7⟩ := entryOk_bounds b
   have y1 : (octB (d.topic.size : Int)).size ≤ 1 := Nat.le_refl _
   have y2 : (octB (d.key.size : Int)).size ≤ 1 := Nat.le_refl _
   have y3 : (octB (d.index / 256)).size ≤ 1 := Nat.le_refl _
   have y4 : (octB d.index).size ≤ 1 := Nat.le_refl _
   have y5 : (lowB d.time.toNat 4).size ≤ 4 := by rw [lowB_size]; exact Nat.le_refl _
   have y6 : (octB ((d.body.size : Int) / 256)).size ≤ 1 := Nat.le_refl _
   have y7 : (octB (d.body.size : Int)).size ≤ 1 := Nat.le_refl _
   have n1 : ¬ 9223372036854775807 < 1 + ((octB (d.topic.size : Int)).size + d.topic.size) := by omega
   have n2 : ¬ 9223372036854775807 < 1 + ((octB (d.topic.size : Int)).size + d.topic.size) + ((octB (d.index / 256)).size + (octB d.index).size) := by omega
   have n3 : ¬ 9223372036854775807 < 1 + ((octB (d.topic.size : Int)).size + d.topic.size) + ((octB (d.index / 256)).size + (octB d.index).size) + (lowB d.time.toNat 4).size := by omega
   have ht : IntKind.u32.wrap d.time = d.time := IntWalk.u32_in _ (by omega)
   go_enter Tryz.func86, Tryz.ntmps86
   go_wp2_with fail
   have hB := Blk.new w 56 #[.string d.topic, .int .i64 d.index, .int .i64 d.time, .string d.key, .string d.body]
   have he := Ext.new (Below.refl w.heap.size w) (.cells #[.string d.topic, .int .i64 d.index, .int .i64 d.time, .string d.key, .string d.body] 56)
   refine (EntryOk_any d _ hd).mono ?_
   rintro e w1 ⟨rfl, h1⟩
   replace he := he.next h1; replace hB := hB.ext h1; clear h1
   obtain ⟨g, hg⟩ : ∃ g, g = w.heap.size := ⟨_, rfl⟩
   rw [← hg] at hB
   rw [← hg]
   clear hg
   have c0 : w1.cell? ⟨g, 0, none⟩ = some (.string d.topic) := hB.cell 0
   have c1 : w1.cell? ⟨g, 1, none⟩ = some (.int .i64 d.index) := hB.cell 1
   have c2 : w1.cell? ⟨g, 2, none⟩ = some (.int .i64 d.time) := hB.cell 2
   go_wp2_with fail
   go_region_held3 (fun w' => w'.cell? ⟨g, 0, none⟩ = some (.string d.topic) ∧ w'.cell? ⟨g, 1, none⟩ = some (.int .i64 d.index) ∧ w'.cell? ⟨g, 2, none⟩ = some (.int .i64 d.time) ∧ Blk w' g 56 #[.string d.topic, .int .i64 d.index, .int .i64 d.time, .string d.key, .string d.body] ∧ Ext w w')
    (first
     | exact ⟨c0, c1, c2, hB.drew, he.drew⟩
     | (go_split_ands; refine ⟨?_, ?_, ?_, ?_, ?_⟩ <;> assumption)
     | (go_split_ands; have hB' := Blk.ext (by assumption) h1; exact ⟨hB'.cell 0, hB'.cell 1, hB'.cell 2, hB', Ext.next (by assumption) h1⟩))
    (first
     | (go_at_call 153; refine (shortS_any _ _ (by omega)).mono ?_; rintro e w' ⟨rfl, h1⟩)
     | (go_at_call 154; refine (pair_any _ _ (by omega) (by omega)).mono ?_; rintro e w' ⟨rfl, h1⟩)
     | (go_at_call 155; refine (WordTextI_any _ _ (by omega) (by omega)).mono ?_; rintro e w' ⟨rfl, h1⟩))
   clear c0 c1 c2 hB he ht n1 n2 n3
   rename_i hh
   obtain ⟨_, _, _, hB, he⟩ := hh
   have hs : (⟨#[69]⟩ ++ (octB d.topic.size ++ d.topic) ++ (octB (d.index / 256) ++ octB d.index) ++ lowB d.time.toNat 4 : ByteArray).size ≤ 30 := by
    simp only [ByteArray.size_append]
    show 1 + _ + _ + _ ≤ 30
    omega
   obtain ⟨H, hH⟩ : ∃ H, H = (⟨#[69]⟩ ++ (octB d.topic.size ++ d.topic) ++ (octB (d.index / 256) ++ octB d.index) ++ lowB d.time.toNat 4 : ByteArray) := ⟨_, rfl⟩
   rw [← hH] at hs ⊢
   have HH := hU hH
   clear hH
   have m1 : ¬ 9223372036854775807 < H.size + ((octB (d.key.size : Int)).size + d.key.size) := by omega
   have m2 : ¬ 9223372036854775807 < H.size + ((octB (d.key.size : Int)).size + d.key.size) + ((octB ((d.body.size : Int) / 256)).size + (octB (d.body.size : Int)).size) := by omega
   have m3 : ¬ 9223372036854775807 < H.size + ((octB (d.key.size : Int)).size + d.key.size) + ((octB ((d.body.size : Int) / 256)).size + (octB (d.body.size : Int)).size) + d.body.size := by omega
   have c3 : w'.cell? ⟨g, 3, none⟩ = some (.string d.key) := hB.cell 3
   have c4 : w'.cell? ⟨g, 4, none⟩ = some (.string d.body) := hB.cell 4
   go_wp2_with fail
   go_region_held3 (fun w' => w'.cell? ⟨g, 3, none⟩ = some (.string d.key) ∧ w'.cell? ⟨g, 4, none⟩ = some (.string d.body) ∧ Blk w' g 56 #[.string d.topic, .int .i64 d.index, .int .i64 d.time, .string d.key, .string d.body] ∧ Ext w w')
    (first
     | exact ⟨c3, c4, hB.drew, he.drew⟩
     | (go_split_ands; refine ⟨?_, ?_, ?_, ?_⟩ <;> assumption)
     | (go_split_ands; have hB' := Blk.ext (by assumption) h1; exact ⟨hB'.cell 3, hB'.cell 4, hB', Ext.next (by assumption) h1⟩))
    (first
     | (go_at_call 153; refine (shortS_any _ _ (by omega)).mono ?_; rintro e w' ⟨rfl, h1⟩)
     | (go_at_call 154; refine (pair_any _ _ (by omega) (by omega)).mono ?_; rintro e w' ⟨rfl, h1⟩))
   all_goals
    go_wp2_with fail
    go_ret2
    refine ⟨by rw [Ht.out, HH.out]; rfl, ?_⟩
    go_split_ands
    assumption
theorem specLeafText_any (d : EntryD) (w : World) (hd : d.Ok) : Calls Tryz.prog 33 #[.agg #[.string d.topic, .int .i64 d.index, .int .i64 d.time, .string d.key, .string d.body]] w fun e w' => e = .returned (.tuple #[.string (leafText d), .bool (entryOk d)]) ∧ Ext w w' := by
 cases b : entryOk d
 · have Ht := hU (show leafText d = ⟨#[]⟩ by simp [leafText, b])
   go_enter Tryz.func33, Tryz.ntmps33
   go_wp2_with fail
   have he := Ext.new (Below.refl w.heap.size w) (.cells #[.string d.topic, .int .i64 d.index, .int .i64 d.time, .string d.key, .string d.body] 56)
   refine (specEntryOk_any d _ hd).mono ?_
   rintro e w1 ⟨rfl, h1⟩
   replace he := he.next h1
   go_wp2_with fail
   go_ret2
   exact ⟨by rw [Ht.out]; rfl, he⟩
 · obtain ⟨z1, z2, z3, z4, z5, z6, z7⟩ := entryOk_bounds b
   have Ht : Hid (leafText d = ⟨#[69]⟩ ++ (lowB d.topic.size 1 ++ d.topic) ++ lowB d.index.toNat 2 ++ lowB d.time.toNat 4 ++ (lowB d.key.size 1 ++ d.key) ++ lowB d.body.size 2 ++ d.body) := by
    rw [lowB_one, lowB_one, lowB_two, lowB_two, Int.toNat_of_nonneg z2]
    exact hU (by simp [leafText, b, leafT])
   have y1 : (lowB d.topic.size 1).size ≤ 1 := by rw [lowB_size]; exact Nat.le_refl _
   have y2 : (lowB d.key.size 1).size ≤ 1 := by rw [lowB_size]; exact Nat.le_refl _
   have y3 : (lowB d.index.toNat 2).size ≤ 2 := by rw [lowB_size]; exact Nat.le_refl _
   have y4 : (lowB d.time.toNat 4).size ≤ 4 := by rw [lowB_size]; exact Nat.le_refl _
   have y5 : (lowB d.body.size 2).size ≤ 2 := by rw [lowB_size]; exact Nat.le_refl _
   have n1 : ¬ 9223372036854775807 < 1 + ((lowB d.topic.size 1).size + d.topic.size) := by omega
   have n2 : ¬ 9223372036854775807 < 1 + ((lowB d.topic.size 1).size + d.topic.size) + (lowB d.index.toNat 2).size := by omega
   have n3 : ¬ 9223372036854775807 < 1 + ((lowB d.topic.size 1).size + d.topic.size) + (lowB d.index.toNat 2).size + (lowB d.time.toNat 4).size := by omega
   have n4 : ¬ 9223372036854775807 < 1 + ((lowB d.topic.size 1).size + d.topic.size) + (lowB d.index.toNat 2).size + (lowB d.time.toNat 4).size + ((lowB d.key.size 1).size + d.key.size) := by omega
   have n5 : ¬ 9223372036854775807 < 1 + ((lowB d.topic.size 1).size + d.topic.size) + (lowB d.index.toNat 2).size + (lowB d.time.toNat 4).size + ((lowB d.key.size 1).size + d.key.size) + (lowB d.body.size 2).size := by omega
   have n6 : ¬ 9223372036854775807 < 1 + ((lowB d.topic.size 1).size + d.topic.size) + (lowB d.index.toNat 2).size + (lowB d.time.toNat 4).size + ((lowB d.key.size 1).size + d.key.size) + (lowB d.body.size 2).size + d.body.size := by omega
   go_enter Tryz.func33, Tryz.ntmps33
   go_wp2_with fail
   have hB := Blk.new w 56 #[.string d.topic, .int .i64 d.index, .int .i64 d.time, .string d.key, .string d.body]
   have he := Ext.new (Below.refl w.heap.size w) (.cells #[.string d.topic, .int .i64 d.index, .int .i64 d.time, .string d.key, .string d.body] 56)
   refine (specEntryOk_any d _ hd).mono ?_
   rintro e w1 ⟨rfl, h1⟩
   replace he := he.next h1; replace hB := hB.ext h1; clear h1
   obtain ⟨g, hg⟩ : ∃ g, g = w.heap.size := ⟨_, rfl⟩
   rw [← hg] at hB
   rw [← hg]
   clear hg
   have c0 : w1.cell? ⟨g, 0, none⟩ = some (.string d.topic) := hB.cell 0
   have c1 : w1.cell? ⟨g, 1, none⟩ = some (.int .i64 d.index) := hB.cell 1
   have c2 : w1.cell? ⟨g, 2, none⟩ = some (.int .i64 d.time) := hB.cell 2
   have c3 : w1.cell? ⟨g, 3, none⟩ = some (.string d.key) := hB.cell 3
   have c4 : w1.cell? ⟨g, 4, none⟩ = some (.string d.body) := hB.cell 4
   go_wp2_with fail
   go_region_held3 (fun w' => w'.cell? ⟨g, 0, none⟩ = some (.string d.topic) ∧ w'.cell? ⟨g, 1, none⟩ = some (.int .i64 d.index) ∧ w'.cell? ⟨g, 2, none⟩ = some (.int .i64 d.time) ∧ w'.cell? ⟨g, 3, none⟩ = some (.string d.key) ∧ w'.cell? ⟨g, 4, none⟩ = some (.string d.body) ∧ Blk w' g 56 #[.string d.topic, .int .i64 d.index, .int .i64 d.time, .string d.key, .string d.body] ∧ Ext w w')
    (first
     | exact ⟨c0, c1, c2, c3, c4, hB.drew, he.drew⟩
     | (go_split_ands; refine ⟨?_, ?_, ?_, ?_, ?_, ?_, ?_⟩ <;> assumption)
     | (go_split_ands; have hB' := Blk.ext (by assumption) h1; exact ⟨hB'.cell 0, hB'.cell 1, hB'.cell 2, hB'.cell 3, hB'.cell 4, hB', Ext.next (by assumption) h1⟩))
    (first
     | (go_at_call 98; refine (l03Short_any _ _ (by omega)).mono ?_; rintro e w' ⟨rfl, h1⟩)
     | (go_at_call_of 99 (Value.int .i64 d.index); refine (l03NumberI_any _ 2 _ (by omega) (by omega) (by decide)).mono ?_; rintro e w' ⟨rfl, h1⟩)
     | (go_at_call_of 99 (Value.int .i64 d.time); refine (l03NumberI_any _ 4 _ (by omega) (by omega) (by decide)).mono ?_; rintro e w' ⟨rfl, h1⟩)
     | (go_at_call_of 99 (Value.int .i64 (d.body.size : Int)); refine (l03Number_any _ 2 _ (by omega) (by decide)).mono ?_; rintro e w' ⟨rfl, h1⟩))
   all_goals
    go_wp2_with fail
    go_ret2
    refine ⟨by rw [Ht.out]; rfl, ?_⟩
    go_split_ands
    assumption
end Go.Proofs.YtgeengkdgdjcjaaGreat
