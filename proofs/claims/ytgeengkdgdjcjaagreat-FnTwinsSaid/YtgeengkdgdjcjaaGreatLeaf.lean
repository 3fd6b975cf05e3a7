/-
  Receipts; Leaf: No condition.
-/
import Derived.Test.YtgeengkdgdjcjaaGreatTexts
namespace Go.Proofs.YtgeengkdgdjcjaaGreat
set_option maxHeartbeats 2000000
set_option maxRecDepth 100000
set_option linter.unusedSimpArgs false
open Go.RowKit
set_option linter.unusedVariables false
theorem isIndex_any (n : Int) (w : World) : Calls Tryz.prog 196 #[.int .i64 n] w fun e w' => e = .returned (.bool (inR n 0 511)) ∧ w = w' := by
 go_enter Tryz.func196, Tryz.ntmps196
 go_wp2_with fail
 refine (inRange_any _ _ _ _).mono ?_
 rintro e w1 ⟨rfl, rfl⟩
 go_wp2_with fail
 go_ret
 exact ⟨rfl, rfl⟩
def receiptOk (d : ReceiptD) : Bool := nameOk d.reader && nameOk d.topic && inR d.index 0 511
def receiptT (d : ReceiptD) : ByteArray := ⟨#[82]⟩ ++ (octB d.reader.size ++ d.reader) ++ (octB d.topic.size ++ d.topic) ++ (octB (d.index / 256) ++ octB d.index)
def receiptText (d : ReceiptD) : ByteArray := if receiptOk d then receiptT d else ⟨#[]⟩
theorem nameOk_size {s : ByteArray} (h : nameOk s = true) : s.size ≤ 20 := by
 simp only [nameOk, Bool.and_eq_true] at h
 have := (inR_true h.1).2
 omega
theorem ReceiptOk_any (d : ReceiptD) (w : World) (hd : d.Ok) : Calls Tryz.prog 122 #[.agg #[.string d.reader, .string d.topic, .int .i64 d.index]] w fun e w' => e = .returned (.bool (receiptOk d)) ∧ Ext w w' := by
 obtain ⟨k0, k1, _⟩ := hd
 cases b1 : nameOk d.reader <;> cases b2 : nameOk d.topic
 all_goals
  go_enter Tryz.func122, Tryz.ntmps122
  go_wp2_with (first | (go_at_call_of 195 (Value.string d.reader); refine (NameOk_any _ _ k0).mono ?_; rintro e w' ⟨rfl, rfl⟩) | (go_at_call_of 195 (Value.string d.topic); refine (NameOk_any _ _ k1).mono ?_; rintro e w' ⟨rfl, rfl⟩) | (go_at_call 196; refine (isIndex_any _ _).mono ?_; rintro e w' ⟨rfl, rfl⟩))
  go_ret
  exact ⟨by simp [receiptOk, b1, b2], by go_grown⟩
theorem ReceiptText_any (d : ReceiptD) (w : World) (hd : d.Ok) : Calls Tryz.prog 88 #[.agg #[.string d.reader, .string d.topic, .int .i64 d.index]] w fun e w' => e = .returned (.tuple #[.string (receiptText d), .bool (receiptOk d)]) ∧ Ext w w' := by
 cases b : receiptOk d
 · have Ht := hU (show receiptText d = ⟨#[]⟩ by simp [receiptText, b])
   go_enter Tryz.func88, Tryz.ntmps88
   go_wp2_with fail
   have he := Ext.new (Below.refl w.heap.size w) (.cells #[.string d.reader, .string d.topic, .int .i64 d.index] 58)
   refine (ReceiptOk_any d _ hd).mono ?_
   rintro e w1 ⟨rfl, h1⟩
   replace he := he.next h1
   go_wp2_with fail
   go_ret2
   exact ⟨by rw [Ht.out]; rfl, he⟩
 · have Ht := hU (show receiptText d = receiptT d by simp [receiptText, b])
   have hb := b
   simp only [receiptOk, Bool.and_eq_true] at hb
   have z1 := nameOk_size hb.1.1
   have z2 := nameOk_size hb.1.2
   have z3 := inR_true hb.2
   obtain ⟨z3, z4⟩ := z3
   clear hb
   have y1 : (octB (d.reader.size : Int)).size ≤ 1 := Nat.le_refl _
   have y2 : (octB (d.topic.size : Int)).size ≤ 1 := Nat.le_refl _
   have y3 : (octB (d.index / 256)).size ≤ 1 := Nat.le_refl _
   have y4 : (octB d.index).size ≤ 1 := Nat.le_refl _
   have n1 : ¬ 9223372036854775807 < 1 + ((octB (d.reader.size : Int)).size + d.reader.size) := by omega
   have n2 : ¬ 9223372036854775807 < 1 + ((octB (d.reader.size : Int)).size + d.reader.size) + ((octB (d.topic.size : Int)).size + d.topic.size) := by omega
   have n3 : ¬ 9223372036854775807 < 1 + ((octB (d.reader.size : Int)).size + d.reader.size) + ((octB (d.topic.size : Int)).size + d.topic.size) + ((octB (d.index / 256)).size + (octB d.index).size) := by omega
   go_enter Tryz.func88, Tryz.ntmps88
   go_wp2_with fail
   have hB := Blk.new w 58 #[.string d.reader, .string d.topic, .int .i64 d.index]
   have he := Ext.new (Below.refl w.heap.size w) (.cells #[.string d.reader, .string d.topic, .int .i64 d.index] 58)
   refine (ReceiptOk_any d _ hd).mono ?_
   rintro e w1 ⟨rfl, h1⟩
   replace he := he.next h1; replace hB := hB.ext h1; clear h1
   obtain ⟨g, hg⟩ : ∃ g, g = w.heap.size := ⟨_, rfl⟩
   rw [← hg] at hB
   rw [← hg]
   clear hg
   have c0 : w1.cell? ⟨g, 0, none⟩ = some (.string d.reader) := hB.cell 0
   have c1 : w1.cell? ⟨g, 1, none⟩ = some (.string d.topic) := hB.cell 1
   have c2 : w1.cell? ⟨g, 2, none⟩ = some (.int .i64 d.index) := hB.cell 2
   go_wp2_with fail
   go_region_held3 (fun w' => w'.cell? ⟨g, 0, none⟩ = some (.string d.reader) ∧ w'.cell? ⟨g, 1, none⟩ = some (.string d.topic) ∧ w'.cell? ⟨g, 2, none⟩ = some (.int .i64 d.index) ∧ Blk w' g 58 #[.string d.reader, .string d.topic, .int .i64 d.index] ∧ Ext w w')
    (first
     | exact ⟨c0, c1, c2, hB.drew, he.drew⟩
     | (go_split_ands; refine ⟨?_, ?_, ?_, ?_, ?_⟩ <;> assumption)
     | (go_split_ands; have hB' := Blk.ext (by assumption) h1; exact ⟨hB'.cell 0, hB'.cell 1, hB'.cell 2, hB', Ext.next (by assumption) h1⟩))
    (first
     | (go_at_call_of 153 (Value.string d.reader); refine (shortS_any _ _ (by omega)).mono ?_; rintro e w' ⟨rfl, h1⟩)
     | (go_at_call_of 153 (Value.string d.topic); refine (shortS_any _ _ (by omega)).mono ?_; rintro e w' ⟨rfl, h1⟩)
     | (go_at_call 154; refine (pair_any _ _ (by omega) (by omega)).mono ?_; rintro e w' ⟨rfl, h1⟩))
   all_goals
    go_wp2_with fail
    go_ret2
    refine ⟨by rw [Ht.out]; rfl, ?_⟩
    go_split_ands
    assumption
def partsB (t : Int) (k b : ByteArray) : Bool := inR t 0 1000000000 && decide ((k.size : Int) ≤ 40) && decide ((b.size : Int) ≤ 400)
def entryOk (d : EntryD) : Bool := nameOk d.topic && inR d.index 0 511 && partsB d.time d.key d.body
def leafT (d : EntryD) : ByteArray := ⟨#[69]⟩ ++ (octB d.topic.size ++ d.topic) ++ (octB (d.index / 256) ++ octB d.index) ++ lowB d.time.toNat 4 ++ (octB d.key.size ++ d.key) ++ (octB ((d.body.size : Int) / 256) ++ octB d.body.size) ++ d.body
def leafText (d : EntryD) : ByteArray := if entryOk d then leafT d else ⟨#[]⟩
theorem partsOk_any (t : Int) (k b : ByteArray) (w : World) (hk : k.size ≤ maxLen) (hb : b.size ≤ maxLen) : Calls Tryz.prog 197 #[.int .i64 t, .string k, .string b] w fun e w' => e = .returned (.bool (partsB t k b)) ∧ w = w' := by
 unfold maxLen at *
 cases c1 : inR t 0 1000000000
 · go_enter Tryz.func197, Tryz.ntmps197
   go_wp2_with (go_at_call 117; refine (inRange_any _ _ _ _).mono ?_; rintro e w' ⟨rfl, rfl⟩)
   go_ret
   exact ⟨by simp [partsB, c1], rfl⟩
 · by_cases c2 : (k.size : Int) ≤ 40
   all_goals
    go_enter Tryz.func197, Tryz.ntmps197
    go_wp2_with (go_at_call 117; refine (inRange_any _ _ _ _).mono ?_; rintro e w' ⟨rfl, rfl⟩)
    go_ret
    exact ⟨by first | (simp [partsB, c1, c2]; done) | (simp [partsB, c1]; omega), rfl⟩
theorem EntryOk_any (d : EntryD) (w : World) (hd : d.Ok) : Calls Tryz.prog 120 #[.agg #[.string d.topic, .int .i64 d.index, .int .i64 d.time, .string d.key, .string d.body]] w fun e w' => e = .returned (.bool (entryOk d)) ∧ Ext w w' := by
 obtain ⟨k0, _, _, k3, k4⟩ := hd
 cases b1 : nameOk d.topic <;> cases b2 : inR d.index 0 511
 all_goals
  go_enter Tryz.func120, Tryz.ntmps120
  go_wp2_with (first | (go_at_call 195; refine (NameOk_any _ _ k0).mono ?_; rintro e w' ⟨rfl, rfl⟩) | (go_at_call 196; refine (isIndex_any _ _).mono ?_; rintro e w' ⟨rfl, rfl⟩) | (go_at_call 197; refine (partsOk_any _ _ _ _ k3 k4).mono ?_; rintro e w' ⟨rfl, rfl⟩))
  go_ret
  exact ⟨by simp [entryOk, b1, b2], by go_grown⟩
theorem specEntryOk_any (d : EntryD) (w : World) (hd : d.Ok) : Calls Tryz.prog 97 #[.agg #[.string d.topic, .int .i64 d.index, .int .i64 d.time, .string d.key, .string d.body]] w fun e w' => e = .returned (.bool (entryOk d)) ∧ Ext w w' := by
 obtain ⟨k0, _, _, k3, k4⟩ := hd
 unfold maxLen at k3 k4
 cases b1 : nameOk d.topic
 · go_enter Tryz.func97, Tryz.ntmps97
   go_wp2_with (go_at_call 167; refine (specNameOk_any _ _ k0).mono ?_; rintro e w' ⟨rfl, rfl⟩)
   go_ret
   exact ⟨by simp [entryOk, b1], by go_grown⟩
 · cases b2 : inR d.index 0 511
   · go_enter Tryz.func97, Tryz.ntmps97
     go_wp2_with (first | (go_at_call 167; refine (specNameOk_any _ _ k0).mono ?_; rintro e w' ⟨rfl, rfl⟩) | (go_at_call 116; refine (l01In_any _ _ _ _).mono ?_; rintro e w' ⟨rfl, rfl⟩))
     go_ret
     exact ⟨by simp [entryOk, b1, b2], by go_grown⟩
   · cases b3 : inR d.time 0 1000000000
     · go_enter Tryz.func97, Tryz.ntmps97
       go_wp2_with (first | (go_at_call 167; refine (specNameOk_any _ _ k0).mono ?_; rintro e w' ⟨rfl, rfl⟩) | (go_at_call 116; refine (l01In_any _ _ _ _).mono ?_; rintro e w' ⟨rfl, rfl⟩))
       go_ret
       exact ⟨by simp [entryOk, partsB, b1, b2, b3], by go_grown⟩
     · by_cases b4 : (d.key.size : Int) ≤ 40
       all_goals
        go_enter Tryz.func97, Tryz.ntmps97
        go_wp2_with (first | (go_at_call 167; refine (specNameOk_any _ _ k0).mono ?_; rintro e w' ⟨rfl, rfl⟩) | (go_at_call 116; refine (l01In_any _ _ _ _).mono ?_; rintro e w' ⟨rfl, rfl⟩))
        go_ret
        exact ⟨by first | (simp [entryOk, partsB, b1, b2, b3, b4]; done) | (simp [entryOk, partsB, b1, b2, b3]; omega), by go_grown⟩
theorem ofInts_four (n : Nat) : ofInts [(n : Int) / 16777216 % 256, (n : Int) / 65536 % 256, (n : Int) / 256 % 256, (n : Int) % 256] = lowB n 4 := by
 show _ = octB ((n / 256 ^ 3 : Nat) : Int) ++ (octB ((n / 256 ^ 2 : Nat) : Int) ++ (octB ((n / 256 ^ 1 : Nat) : Int) ++ (octB ((n / 256 ^ 0 : Nat) : Int) ++ ⟨#[]⟩)))
 rw [append_nil]
 have e : ((n / 256 ^ 3 : Nat) : Int) = (n : Int) / 16777216 ∧ ((n / 256 ^ 2 : Nat) : Int) = (n : Int) / 65536 ∧ ((n / 256 ^ 1 : Nat) : Int) = (n : Int) / 256 ∧ ((n / 256 ^ 0 : Nat) : Int) = (n : Int) := by
  refine ⟨?_, ?_, ?_, ?_⟩ <;> simp
 rw [e.1, e.2.1, e.2.2.1, e.2.2.2]
 rfl
theorem WordTextN_any (n : Nat) (w : World) (hn : n < 4294967296) : Calls Tryz.prog 155 #[.int .u32 (n : Int)] w fun e w' => e = .returned (.string (lowB n 4)) ∧ Ext w w' := by
 have hconv := conv_bytes [(n : Int) / 16777216 % 256, (n : Int) / 65536 % 256, (n : Int) / 256 % 256, (n : Int) % 256] (by intro x hx; simp only [List.mem_cons, List.not_mem_nil, or_false] at hx; omega) w
 rw [ofInts_four] at hconv
 simp only [List.length_cons, List.length_nil, Nat.zero_add, List.map_cons, List.map_nil, Nat.reduceAdd, show (n : Int) / 16777216 % 256 = (n : Int) / 16777216 from by omega] at hconv
 go_enter Tryz.func155, Tryz.ntmps155
 go_wp2_with fail
 go_ret
 exact ⟨rfl, by go_grown⟩
theorem WordTextI_any (n : Int) (w : World) (h0 : 0 ≤ n) (hn : n < 4294967296) : Calls Tryz.prog 155 #[.int .u32 n] w fun e w' => e = .returned (.string (lowB n.toNat 4)) ∧ Ext w w' := by
 obtain ⟨m, rfl⟩ := Int.eq_ofNat_of_zero_le h0
 rw [Int.toNat_natCast]
 exact WordTextN_any m w (by omega)
end Go.Proofs.YtgeengkdgdjcjaaGreat
