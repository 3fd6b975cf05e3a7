/-
  LeafText; ItemHash; ConvEntry; NLog; ConvReceipt; ConvHead; NRange; NSeal; NBroker; ClientNw: No condition.
-/
import Derived.Test.YtgeengkdgdjcjaaGreatLeaf
import Derived.Test.YtgeengkdgdjcjaaGreatMerkle
import Derived.Test.YtgeengkdgdjcjaaGreatWords
import Derived.StillTailTactics
import Derived.Test.YtgeengkdgdjcjaaGreatHeadOps
namespace Go.Proofs.YtgeengkdgdjcjaaGreat
set_option maxHeartbeats 2000000
set_option maxRecDepth 100000
set_option linter.unusedSimpArgs false
open Go.RowKit
set_option linter.unusedVariables false
theorem entryOk_bounds {d : EntryD} (h : entryOk d = true) : d.topic.size ≤ 20 ∧ 0 ≤ d.index ∧ d.index ≤ 511 ∧ 0 ≤ d.time ∧ d.time ≤ 1000000000 ∧ d.key.size ≤ 40 ∧ d.body.size ≤ 400 := by
 simp only [entryOk, partsB, Bool.and_eq_true, decide_eq_true_eq] at h
 obtain ⟨⟨h1, h2⟩, ⟨h3, h4⟩, h5⟩ := h
 have h6 := nameOk_size h1
 have h7 := inR_true h2
 have h8 := inR_true h3
 omega
theorem LeafText_any (d : EntryD) (w : World) (hd : d.Ok) : Calls Tryz.prog 86 #[.agg #[.string d.topic, .int .i64 d.index, .int .i64 d.time, .string d.key, .string d.body]] w fun e w' => e = .returned (.tuple #[.string (leafText d), .bool (entryOk d)]) ∧ Ext w w' := by
 cases b : entryOk d
 · have Ht := hU (show leafText d = ⟨#[]⟩ by simp [leafText, b])
   go_enter Tryz.func86, Tryz.ntmps86
   go_wp2_with fail
   have he := Ext.new (Below.refl w.heap.size w) (.cells #[.string d.topic, .int .i64 d.index, .int .i64 d.time, .string d.key, .string d.body] 56)
   refine (EntryOk_any d _ hd).mono ?_
   rintro e w1 ⟨rfl, h1⟩
   replace he := he.next h1
   go_wp2_with fail
   go_ret2
   exact ⟨by rw [Ht.out]; rfl, he⟩
 · have Ht := hU (show leafText d = leafT d by simp [leafText, b])
   obtain ⟨z1, z2, z3, z4, z5, z6, z7⟩ := entryOk_bounds b
   have y1 : (octB (d.topic.size : Int)).size ≤ 1 := Nat.le_refl _
   have y2 : (octB (d.key.size : Int)).size ≤ 1 := Nat.le_refl _
   have y3 : (octB (d.index / 256)).size ≤ 1 := Nat.le_refl _
   have y4 : (octB d.index).size ≤ 1 := Nat.le_refl _
   have y5 : (lowB d.time.toNat 4).size ≤ 4 := by rw [lowB_size]; exact Nat.le_refl _
   have y6 : (octB ((d.body.size : Int) / 256)).size ≤ 1 := Nat.le_refl _
   have y7 : (octB (d.body.size : Int)).size ≤ 1 := Nat.le_refl _
   have n1 : ¬ 9223372036854775807 < 1 + ((octB (d.topic.size : Int)).size + d.topic.size) := by omega
   have n2 : ¬ 9223372036854775807 < 1 + ((octB (d.topic.size : Int)).size + d.topic.size) + ((octB (d.index / 256)).size + (octB d.index).size) := by omega
   have n3 : ¬ 9223372036854775807 < 1 + ((octB (d.topic.size : Int)).size + d.topic.size) + ((octB (d.index / 256)).size + (octB d.index).size) + (lowB d.time.toNat 4).size := by omega
   have ht : IntKind.u32.wrap d.time = d.time := IntWalk.u32_in _ (by omega)
   go_enter Tryz.func86, Tryz.ntmps86
   go_wp2_with fail
   have hB := Blk.new w 56 #[.string d.topic, .int .i64 d.index, .int .i64 d.time, .string d.key, .string d.body]
   have he := Ext.new (Below.refl w.heap.size w) (.cells #[.string d.topic, .int .i64 d.index, .int .i64 d.time, .string d.key, .string d.body] 56)
   refine (EntryOk_any d _ hd).mono ?_
   rintro e w1 ⟨rfl, h1⟩
   replace he := he.next h1; replace hB := hB.ext h1; clear h1
   obtain ⟨g, hg⟩ : ∃ g, g = w.heap.size := ⟨_, rfl⟩
   rw [← hg] at hB
   rw [← hg]
   clear hg
   have c0 : w1.cell? ⟨g, 0, none⟩ = some (.string d.topic) := hB.cell 0
   have c1 : w1.cell? ⟨g, 1, none⟩ = some (.int .i64 d.index) := hB.cell 1
   have c2 : w1.cell? ⟨g, 2, none⟩ = some (.int .i64 d.time) := hB.cell 2
   go_wp2_with fail
   go_region_held3 (fun w' => w'.cell? ⟨g, 0, none⟩ = some (.string d.topic) ∧ w'.cell? ⟨g, 1, none⟩ = some (.int .i64 d.index) ∧ w'.cell? ⟨g, 2, none⟩ = some (.int .i64 d.time) ∧ Blk w' g 56 #[.string d.topic, .int .i64 d.index, .int .i64 d.time, .string d.key, .string d.body] ∧ Ext w w')
    (first
     | exact ⟨c0, c1, c2, hB.drew, he.drew⟩
     | (go_split_ands; refine ⟨?_, ?_, ?_, ?_, ?_⟩ <;> assumption)
     | (go_split_ands; have hB' := Blk.ext (by assumption) h1; exact ⟨hB'.cell 0, hB'.cell 1, hB'.cell 2, hB', Ext.next (by assumption) h1⟩))
    (first
     | (go_at_call 153; refine (shortS_any _ _ (by omega)).mono ?_; rintro e w' ⟨rfl, h1⟩)
     | (go_at_call 154; refine (pair_any _ _ (by omega) (by omega)).mono ?_; rintro e w' ⟨rfl, h1⟩)
     | (go_at_call 155; refine (WordTextI_any _ _ (by omega) (by omega)).mono ?_; rintro e w' ⟨rfl, h1⟩))
   clear c0 c1 c2 hB he ht n1 n2 n3
   rename_i hh
   obtain ⟨_, _, _, hB, he⟩ := hh
   have hs : (⟨#[69]⟩ ++ (octB d.topic.size ++ d.topic) ++ (octB (d.index / 256) ++ octB d.index) ++ lowB d.time.toNat 4 : ByteArray).size ≤ 30 := by
    simp only [ByteArray.size_append]
    show 1 + _ + _ + _ ≤ 30
    omega
   obtain ⟨H, hH⟩ : ∃ H, H = (⟨#[69]⟩ ++ (octB d.topic.size ++ d.topic) ++ (octB (d.index / 256) ++ octB d.index) ++ lowB d.time.toNat 4 : ByteArray) := ⟨_, rfl⟩
   rw [← hH] at hs ⊢
   have HH := hU hH
   clear hH
   have m1 : ¬ 9223372036854775807 < H.size + ((octB (d.key.size : Int)).size + d.key.size) := by omega
   have m2 : ¬ 9223372036854775807 < H.size + ((octB (d.key.size : Int)).size + d.key.size) + ((octB ((d.body.size : Int) / 256)).size + (octB (d.body.size : Int)).size) := by omega
   have m3 : ¬ 9223372036854775807 < H.size + ((octB (d.key.size : Int)).size + d.key.size) + ((octB ((d.body.size : Int) / 256)).size + (octB (d.body.size : Int)).size) + d.body.size := by omega
   have c3 : w'.cell? ⟨g, 3, none⟩ = some (.string d.key) := hB.cell 3
   have c4 : w'.cell? ⟨g, 4, none⟩ = some (.string d.body) := hB.cell 4
   go_wp2_with fail
   go_region_held3 (fun w' => w'.cell? ⟨g, 3, none⟩ = some (.string d.key) ∧ w'.cell? ⟨g, 4, none⟩ = some (.string d.body) ∧ Blk w' g 56 #[.string d.topic, .int .i64 d.index, .int .i64 d.time, .string d.key, .string d.body] ∧ Ext w w')
    (first
     | exact ⟨c3, c4, hB.drew, he.drew⟩
     | (go_split_ands; refine ⟨?_, ?_, ?_, ?_⟩ <;> assumption)
     | (go_split_ands; have hB' := Blk.ext (by assumption) h1; exact ⟨hB'.cell 3, hB'.cell 4, hB', Ext.next (by assumption) h1⟩))
    (first
     | (go_at_call 153; refine (shortS_any _ _ (by omega)).mono ?_; rintro e w' ⟨rfl, h1⟩)
     | (go_at_call 154; refine (pair_any _ _ (by omega) (by omega)).mono ?_; rintro e w' ⟨rfl, h1⟩))
   all_goals
    go_wp2_with fail
    go_ret2
    refine ⟨by rw [Ht.out, HH.out]; rfl, ?_⟩
    go_split_ands
    assumption
theorem specLeafText_any (d : EntryD) (w : World) (hd : d.Ok) : Calls Tryz.prog 33 #[.agg #[.string d.topic, .int .i64 d.index, .int .i64 d.time, .string d.key, .string d.body]] w fun e w' => e = .returned (.tuple #[.string (leafText d), .bool (entryOk d)]) ∧ Ext w w' := by
 cases b : entryOk d
 · have Ht := hU (show leafText d = ⟨#[]⟩ by simp [leafText, b])
   go_enter Tryz.func33, Tryz.ntmps33
   go_wp2_with fail
   have he := Ext.new (Below.refl w.heap.size w) (.cells #[.string d.topic, .int .i64 d.index, .int .i64 d.time, .string d.key, .string d.body] 56)
   refine (specEntryOk_any d _ hd).mono ?_
   rintro e w1 ⟨rfl, h1⟩
   replace he := he.next h1
   go_wp2_with fail
   go_ret2
   exact ⟨by rw [Ht.out]; rfl, he⟩
 · obtain ⟨z1, z2, z3, z4, z5, z6, z7⟩ := entryOk_bounds b
   have Ht : Hid (leafText d = ⟨#[69]⟩ ++ (lowB d.topic.size 1 ++ d.topic) ++ lowB d.index.toNat 2 ++ lowB d.time.toNat 4 ++ (lowB d.key.size 1 ++ d.key) ++ lowB d.body.size 2 ++ d.body) := by
    rw [lowB_one, lowB_one, lowB_two, lowB_two, Int.toNat_of_nonneg z2]
    exact hU (by simp [leafText, b, leafT])
   have y1 : (lowB d.topic.size 1).size ≤ 1 := by rw [lowB_size]; exact Nat.le_refl _
   have y2 : (lowB d.key.size 1).size ≤ 1 := by rw [lowB_size]; exact Nat.le_refl _
   have y3 : (lowB d.index.toNat 2).size ≤ 2 := by rw [lowB_size]; exact Nat.le_refl _
   have y4 : (lowB d.time.toNat 4).size ≤ 4 := by rw [lowB_size]; exact Nat.le_refl _
   have y5 : (lowB d.body.size 2).size ≤ 2 := by rw [lowB_size]; exact Nat.le_refl _
   have n1 : ¬ 9223372036854775807 < 1 + ((lowB d.topic.size 1).size + d.topic.size) := by omega
   have n2 : ¬ 9223372036854775807 < 1 + ((lowB d.topic.size 1).size + d.topic.size) + (lowB d.index.toNat 2).size := by omega
   have n3 : ¬ 9223372036854775807 < 1 + ((lowB d.topic.size 1).size + d.topic.size) + (lowB d.index.toNat 2).size + (lowB d.time.toNat 4).size := by omega
   have n4 : ¬ 9223372036854775807 < 1 + ((lowB d.topic.size 1).size + d.topic.size) + (lowB d.index.toNat 2).size + (lowB d.time.toNat 4).size + ((lowB d.key.size 1).size + d.key.size) := by omega
   have n5 : ¬ 9223372036854775807 < 1 + ((lowB d.topic.size 1).size + d.topic.size) + (lowB d.index.toNat 2).size + (lowB d.time.toNat 4).size + ((lowB d.key.size 1).size + d.key.size) + (lowB d.body.size 2).size := by omega
   have n6 : ¬ 9223372036854775807 < 1 + ((lowB d.topic.size 1).size + d.topic.size) + (lowB d.index.toNat 2).size + (lowB d.time.toNat 4).size + ((lowB d.key.size 1).size + d.key.size) + (lowB d.body.size 2).size + d.body.size := by omega
   go_enter Tryz.func33, Tryz.ntmps33
   go_wp2_with fail
   have hB := Blk.new w 56 #[.string d.topic, .int .i64 d.index, .int .i64 d.time, .string d.key, .string d.body]
   have he := Ext.new (Below.refl w.heap.size w) (.cells #[.string d.topic, .int .i64 d.index, .int .i64 d.time, .string d.key, .string d.body] 56)
   refine (specEntryOk_any d _ hd).mono ?_
   rintro e w1 ⟨rfl, h1⟩
   replace he := he.next h1; replace hB := hB.ext h1; clear h1
   obtain ⟨g, hg⟩ : ∃ g, g = w.heap.size := ⟨_, rfl⟩
   rw [← hg] at hB
   rw [← hg]
   clear hg
   have c0 : w1.cell? ⟨g, 0, none⟩ = some (.string d.topic) := hB.cell 0
   have c1 : w1.cell? ⟨g, 1, none⟩ = some (.int .i64 d.index) := hB.cell 1
   have c2 : w1.cell? ⟨g, 2, none⟩ = some (.int .i64 d.time) := hB.cell 2
   have c3 : w1.cell? ⟨g, 3, none⟩ = some (.string d.key) := hB.cell 3
   have c4 : w1.cell? ⟨g, 4, none⟩ = some (.string d.body) := hB.cell 4
   go_wp2_with fail
   go_region_held3 (fun w' => w'.cell? ⟨g, 0, none⟩ = some (.string d.topic) ∧ w'.cell? ⟨g, 1, none⟩ = some (.int .i64 d.index) ∧ w'.cell? ⟨g, 2, none⟩ = some (.int .i64 d.time) ∧ w'.cell? ⟨g, 3, none⟩ = some (.string d.key) ∧ w'.cell? ⟨g, 4, none⟩ = some (.string d.body) ∧ Blk w' g 56 #[.string d.topic, .int .i64 d.index, .int .i64 d.time, .string d.key, .string d.body] ∧ Ext w w')
    (first
     | exact ⟨c0, c1, c2, c3, c4, hB.drew, he.drew⟩
     | (go_split_ands; refine ⟨?_, ?_, ?_, ?_, ?_, ?_, ?_⟩ <;> assumption)
     | (go_split_ands; have hB' := Blk.ext (by assumption) h1; exact ⟨hB'.cell 0, hB'.cell 1, hB'.cell 2, hB'.cell 3, hB'.cell 4, hB', Ext.next (by assumption) h1⟩))
    (first
     | (go_at_call 98; refine (l03Short_any _ _ (by omega)).mono ?_; rintro e w' ⟨rfl, h1⟩)
     | (go_at_call_of 99 (Value.int .i64 d.index); refine (l03NumberI_any _ 2 _ (by omega) (by omega) (by decide)).mono ?_; rintro e w' ⟨rfl, h1⟩)
     | (go_at_call_of 99 (Value.int .i64 d.time); refine (l03NumberI_any _ 4 _ (by omega) (by omega) (by decide)).mono ?_; rintro e w' ⟨rfl, h1⟩)
     | (go_at_call_of 99 (Value.int .i64 (d.body.size : Int)); refine (l03Number_any _ 2 _ (by omega) (by decide)).mono ?_; rintro e w' ⟨rfl, h1⟩))
   all_goals
    go_wp2_with fail
    go_ret2
    refine ⟨by rw [Ht.out]; rfl, ?_⟩
    go_split_ands
    assumption
set_option maxHeartbeats 1000000
def leafHOk (n : Int) (e : EntryD) : Bool := entryOk e && digestOk n 0 (leafText e)
def leafH (n : Int) (e : EntryD) : ByteArray := if entryOk e then digest n 0 (leafText e) else ⟨#[]⟩
def recHOk (n : Int) (r : ReceiptD) : Bool := receiptOk r && digestOk n 2 (receiptText r)
def recH (n : Int) (r : ReceiptD) : ByteArray := if receiptOk r then digest n 2 (receiptText r) else ⟨#[]⟩
theorem octB_size1 (k : Int) : (octB k).size = 1 := rfl
theorem leafText_size (d : EntryD) : (leafText d).size ≤ 1000 := by
 unfold leafText
 by_cases h : entryOk d = true
 · have := entryOk_bounds h
   rw [if_pos h, leafT]
   have e : (lowB d.time.toNat 4).size = 4 := rfl
   have e1 : (⟨#[69]⟩ : ByteArray).size = 1 := rfl
   simp only [ByteArray.size_append, octB_size1, e, e1]
   omega
 · rw [if_neg h]; decide
theorem receiptText_size (d : ReceiptD) : (receiptText d).size ≤ 1000 := by
 unfold receiptText
 by_cases h : receiptOk d = true
 · have h' := h
   simp only [receiptOk, Bool.and_eq_true] at h'
   have s1 := nameOk_size h'.1.1
   have s2 := nameOk_size h'.1.2
   rw [if_pos h, receiptT]
   have e1 : (⟨#[82]⟩ : ByteArray).size = 1 := rfl
   simp only [ByteArray.size_append, octB_size1, e1]
   omega
 · rw [if_neg h]; decide
theorem small_max {b : ByteArray} (h : b.size ≤ 1000) : b.size ≤ maxLen := by unfold maxLen; omega
theorem leafH_yes {n : Int} {e : EntryD} (h : entryOk e = true) : leafH n e = digest n 0 (leafText e) ∧ leafHOk n e = digestOk n 0 (leafText e) := by simp [leafH, leafHOk, h]
theorem leafH_no {n : Int} {e : EntryD} (h : entryOk e = false) : leafH n e = ⟨#[]⟩ ∧ leafHOk n e = false := by simp [leafH, leafHOk, h]
theorem recH_yes {n : Int} {e : ReceiptD} (h : receiptOk e = true) : recH n e = digest n 2 (receiptText e) ∧ recHOk n e = digestOk n 2 (receiptText e) := by simp [recH, recHOk, h]
theorem recH_no {n : Int} {e : ReceiptD} (h : receiptOk e = false) : recH n e = ⟨#[]⟩ ∧ recHOk n e = false := by simp [recH, recHOk, h]
theorem implLeafHash_any (n : Int) (d : EntryD) (w : World) (hd : d.Ok) : Calls Tryz.prog 136 #[.int .i64 n, .agg #[.string d.topic, .int .i64 d.index, .int .i64 d.time, .string d.key, .string d.body]] w fun e w' => e = .returned (.tuple #[.string (leafH n d), .bool (leafHOk n d)]) ∧ Ext w w' := by
 have Hd := hU hd; clear hd
 cases b : entryOk d
 · obtain ⟨e1, e2⟩ := leafH_no (n := n) b
   rw [e1, e2]
   go_enter Tryz.func136, Tryz.ntmps136
   go_wp2_with fail
   refine (LeafText_any d _ Hd.out).mono ?_
   rintro e w1 ⟨rfl, h1⟩
   rw [b]
   go_wp2_with fail
   go_ret2
   exact ⟨rfl, by first | exact h1 | exact Ext.next (Ext.new (Below.refl _ _) _) h1⟩
 · obtain ⟨e1, e2⟩ := leafH_yes (n := n) b
   rw [e1, e2]
   have hs := small_max (leafText_size d)
   go_enter Tryz.func136, Tryz.ntmps136
   go_wp2_with fail
   refine (LeafText_any d _ Hd.out).mono ?_
   rintro e w1 ⟨rfl, h1⟩
   rw [b]
   go_wp2_with fail
   refine (Digest_any n 0 (leafText d) _ hs).mono ?_
   rintro e w2 ⟨rfl, h2⟩
   go_wp2_with fail
   go_ret2
   exact ⟨rfl, by first | exact h1.next h2 | exact Ext.next (Ext.new (Below.refl _ _) _) (h1.next h2)⟩
theorem implReceiptHash_any (n : Int) (d : ReceiptD) (w : World) (hd : d.Ok) : Calls Tryz.prog 144 #[.int .i64 n, .agg #[.string d.reader, .string d.topic, .int .i64 d.index]] w fun e w' => e = .returned (.tuple #[.string (recH n d), .bool (recHOk n d)]) ∧ Ext w w' := by
 have Hd := hU hd; clear hd
 cases b : receiptOk d
 · obtain ⟨e1, e2⟩ := recH_no (n := n) b
   rw [e1, e2]
   go_enter Tryz.func144, Tryz.ntmps144
   go_wp2_with fail
   refine (ReceiptText_any d _ Hd.out).mono ?_
   rintro e w1 ⟨rfl, h1⟩
   rw [b]
   go_wp2_with fail
   go_ret2
   exact ⟨rfl, by first | exact h1 | exact Ext.next (Ext.new (Below.refl _ _) _) h1⟩
 · obtain ⟨e1, e2⟩ := recH_yes (n := n) b
   rw [e1, e2]
   have hs := small_max (receiptText_size d)
   go_enter Tryz.func144, Tryz.ntmps144
   go_wp2_with fail
   refine (ReceiptText_any d _ Hd.out).mono ?_
   rintro e w1 ⟨rfl, h1⟩
   rw [b]
   go_wp2_with fail
   refine (Digest_any n 2 (receiptText d) _ hs).mono ?_
   rintro e w2 ⟨rfl, h2⟩
   go_wp2_with fail
   go_ret2
   exact ⟨rfl, by first | exact h1.next h2 | exact Ext.next (Ext.new (Below.refl _ _) _) (h1.next h2)⟩
theorem specLeafHash_any (n : Int) (d : EntryD) (w : World) (hd : d.Ok) : Calls Tryz.prog 93 #[.int .i64 n, .agg #[.string d.topic, .int .i64 d.index, .int .i64 d.time, .string d.key, .string d.body]] w fun e w' => e = .returned (.tuple #[.string (leafH n d), .bool (leafHOk n d)]) ∧ Ext w w' := by
 have Hd := hU hd; clear hd
 cases b : entryOk d
 · obtain ⟨e1, e2⟩ := leafH_no (n := n) b
   rw [e1, e2]
   go_enter Tryz.func93, Tryz.ntmps93
   go_wp2_with fail
   refine (specLeafText_any d _ Hd.out).mono ?_
   rintro e w1 ⟨rfl, h1⟩
   rw [b]
   go_wp2_with fail
   go_ret2
   exact ⟨rfl, by first | exact h1 | exact Ext.next (Ext.new (Below.refl _ _) _) h1⟩
 · obtain ⟨e1, e2⟩ := leafH_yes (n := n) b
   rw [e1, e2]
   have hs := small_max (leafText_size d)
   go_enter Tryz.func93, Tryz.ntmps93
   go_wp2_with fail
   refine (specLeafText_any d _ Hd.out).mono ?_
   rintro e w1 ⟨rfl, h1⟩
   rw [b]
   go_wp2_with fail
   refine (specDigest_any n 0 (leafText d) _ hs).mono ?_
   rintro e w2 ⟨rfl, h2⟩
   go_wp2_with fail
   go_ret2
   exact ⟨rfl, by first | exact h1.next h2 | exact Ext.next (Ext.new (Below.refl _ _) _) (h1.next h2)⟩
theorem specReceiptHash_any (n : Int) (d : ReceiptD) (w : World) (hd : d.Ok) : Calls Tryz.prog 95 #[.int .i64 n, .agg #[.string d.reader, .string d.topic, .int .i64 d.index]] w fun e w' => e = .returned (.tuple #[.string (recH n d), .bool (recHOk n d)]) ∧ Ext w w' := by
 have Hd := hU hd; clear hd
 cases b : receiptOk d
 · obtain ⟨e1, e2⟩ := recH_no (n := n) b
   rw [e1, e2]
   go_enter Tryz.func95, Tryz.ntmps95
   go_wp2_with fail
   refine (specReceiptText_any d _ Hd.out).mono ?_
   rintro e w1 ⟨rfl, h1⟩
   rw [b]
   go_wp2_with fail
   go_ret2
   exact ⟨rfl, by first | exact h1 | exact Ext.next (Ext.new (Below.refl _ _) _) h1⟩
 · obtain ⟨e1, e2⟩ := recH_yes (n := n) b
   rw [e1, e2]
   have hs := small_max (receiptText_size d)
   go_enter Tryz.func95, Tryz.ntmps95
   go_wp2_with fail
   refine (specReceiptText_any d _ Hd.out).mono ?_
   rintro e w1 ⟨rfl, h1⟩
   rw [b]
   go_wp2_with fail
   refine (specDigest_any n 2 (receiptText d) _ hs).mono ?_
   rintro e w2 ⟨rfl, h2⟩
   go_wp2_with fail
   go_ret2
   exact ⟨rfl, by first | exact h1.next h2 | exact Ext.next (Ext.new (Below.refl _ _) _) (h1.next h2)⟩

structure LogD where
 entries : List EntryD
def LogD.Ok (d : LogD) : Prop := (∀ x ∈ d.entries, x.Ok)


structure RangeD where
 size : Int
 peaks : List ByteArray
def RangeD.Ok (d : RangeD) : Prop := (Lit.int .i64 d.size).wf = true ∧ (∀ s ∈ d.peaks, s.size ≤ maxLen)
structure SealD where
 leaves : RangeD
 taken : RangeD
 head : HeadD
def SealD.Ok (d : SealD) : Prop := d.leaves.Ok ∧ d.taken.Ok ∧ d.head.Ok
structure BrokerD where
 width : Int
 log : LogD
 receipts : List ReceiptD
 heads : List HeadD
 sealed : SealD
def BrokerD.Ok (d : BrokerD) : Prop := (Lit.int .i64 d.width).wf = true ∧ d.log.Ok ∧ (∀ x ∈ d.receipts, x.Ok) ∧ (∀ x ∈ d.heads, x.Ok) ∧ d.sealed.Ok
def newH (ok : Bool) (n : Int) : HeadD := if ok then ⟨0, 0, emptyR n, 0, emptyR n⟩ else ⟨0, 0, ⟨#[]⟩, 0, ⟨#[]⟩⟩
theorem newH_yes (n : Int) : newH true n = ⟨0, 0, emptyR n, 0, emptyR n⟩ := rfl
theorem specHeadNew_any (n : Int) (w : World) : Calls Tryz.prog 223 #[.int .i64 n] w fun e w' => e = .returned (.tuple #[.agg #[.int .i64 (newH (inR n 1 32) n).number, .int .i64 (newH (inR n 1 32) n).size, .string (newH (inR n 1 32) n).root, .int .i64 (newH (inR n 1 32) n).taken, .string (newH (inR n 1 32) n).takenRoot], .bool (inR n 1 32)]) ∧ Ext w w' := by
 have K0 := hU (Blk.new w 33 #[.int .i64 0, .int .i64 0, .string ⟨#[]⟩, .int .i64 0, .string ⟨#[]⟩])
 have He := hU (Ext.new (Below.refl w.heap.size w) (.cells #[.int .i64 0, .int .i64 0, .string ⟨#[]⟩, .int .i64 0, .string ⟨#[]⟩] 33))
 cases b : inR n 1 32
 all_goals
  go_enter Tryz.func223, Tryz.ntmps223
  go_wp2_with fail
  obtain ⟨g, hg⟩ : ∃ g, g = w.heap.size := ⟨_, rfl⟩
  rw [← hg] at K0
  rw [← hg]
  have Hg : w.heap.size ≤ g := by omega
  clear hg
  refine (specEmptyRoot_any n _).mono ?_
  rintro e w1 ⟨rfl, h1⟩
  have hZ := K0.out.ext h1; have he := He.out.next h1
  clear h1 K0 He
  obtain ⟨zc, zf⟩ := hZ.rules
  go_wp2_with fail
 · have hz := hZ.put 0 [.int .i64 0, .int .i64 0, .string ⟨#[]⟩, .int .i64 0, .string ⟨#[]⟩] #[.int .i64 0, .int .i64 0, .string ⟨#[]⟩, .int .i64 0, .string ⟨#[]⟩] (by decide) rfl
   have hx := ext_setCells (W := w) (g := g) Hg [.int .i64 0, .int .i64 0, .string ⟨#[]⟩, .int .i64 0, .string ⟨#[]⟩] 0 w1 he
   exact ret_row_tmp rfl rfl hz Tryz.underlying33 rfl (by kernel_rfl) rfl ⟨rfl, hx⟩
 · have hz := hZ.put 0 [.int .i64 (newH true n).number, .int .i64 (newH true n).size, .string (newH true n).root, .int .i64 (newH true n).taken, .string (newH true n).takenRoot] #[.int .i64 (newH true n).number, .int .i64 (newH true n).size, .string (newH true n).root, .int .i64 (newH true n).taken, .string (newH true n).takenRoot] (by simp) rfl
   have hx := ext_setCells (W := w) (g := g) Hg [.int .i64 (newH true n).number, .int .i64 (newH true n).size, .string (newH true n).root, .int .i64 (newH true n).taken, .string (newH true n).takenRoot] 0 w1 he
   exact ret_row_tmp rfl rfl hz Tryz.underlying33 rfl (by kernel_rfl) rfl ⟨rfl, hx⟩
theorem implHeadNew_any (n : Int) (w : World) : Calls Tryz.prog 26 #[.int .i64 n] w fun e w' => e = .returned (.tuple #[.agg #[.int .i64 (newH (inR n 1 32) n).number, .int .i64 (newH (inR n 1 32) n).size, .string (newH (inR n 1 32) n).root, .int .i64 (newH (inR n 1 32) n).taken, .string (newH (inR n 1 32) n).takenRoot], .bool (inR n 1 32)]) ∧ Ext w w' := by
 have K0 := hU (Blk.new w 33 #[.int .i64 0, .int .i64 0, .string ⟨#[]⟩, .int .i64 0, .string ⟨#[]⟩])
 have He := hU (Ext.new (Below.refl w.heap.size w) (.cells #[.int .i64 0, .int .i64 0, .string ⟨#[]⟩, .int .i64 0, .string ⟨#[]⟩] 33))
 cases b : inR n 1 32
 · go_enter Tryz.func26, Tryz.ntmps26
   go_wp2_with (go_at_call 53; refine (isWidth_any _ _).mono ?_; rintro e w' ⟨rfl, rfl⟩)
   exact ret_row_tmp rfl rfl K0.out Tryz.underlying33 rfl (by kernel_rfl) rfl ⟨rfl, He.out⟩
 · go_enter Tryz.func26, Tryz.ntmps26
   go_wp2_with (go_at_call 53; refine (isWidth_any _ _).mono ?_; rintro e w' ⟨rfl, rfl⟩)
   obtain ⟨g, hg⟩ : ∃ g, g = w.heap.size := ⟨_, rfl⟩
   rw [← hg] at K0
   rw [← hg]
   have Hg : w.heap.size ≤ g := by omega
   clear hg
   refine (emptyRoot_any n _).mono ?_
   rintro e w1 ⟨rfl, h1⟩
   have hZ := K0.out.ext h1; have he := He.out.next h1
   clear h1 K0 He
   obtain ⟨zc, zf⟩ := hZ.rules
   go_wp2_with fail
   have hz := hZ.put 0 [.int .i64 (newH true n).number, .int .i64 (newH true n).size, .string (newH true n).root, .int .i64 (newH true n).taken, .string (newH true n).takenRoot] #[.int .i64 (newH true n).number, .int .i64 (newH true n).size, .string (newH true n).root, .int .i64 (newH true n).taken, .string (newH true n).takenRoot] (by simp) rfl
   have hx := ext_setCells (W := w) (g := g) Hg [.int .i64 (newH true n).number, .int .i64 (newH true n).size, .string (newH true n).root, .int .i64 (newH true n).taken, .string (newH true n).takenRoot] 0 w1 he
   exact ret_row_tmp rfl rfl hz Tryz.underlying33 rfl (by kernel_rfl) rfl ⟨rfl, hx⟩
end Go.Proofs.YtgeengkdgdjcjaaGreat
