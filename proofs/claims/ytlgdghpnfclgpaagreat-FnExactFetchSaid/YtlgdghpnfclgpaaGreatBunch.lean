/-
  Receipts; Leaf; Bunch: No condition.
-/
import Derived.Test.YtlgdghpnfclgpaaGreatWords
import Derived.Test.YtlgdghpnfclgpaaGreatArgs
import Derived.OrdersHeld
namespace Go.Proofs.YtlgdghpnfclgpaaGreat
set_option maxHeartbeats 2000000
set_option maxRecDepth 100000
set_option linter.unusedSimpArgs false
open Go.RowKit
set_option linter.unusedVariables false
theorem isIndex_any (n : Int) (w : World) : Calls Tryz.prog 195 #[.int .i64 n] w fun e w' => e = .returned (.bool (inR n 0 511)) ∧ w = w' := by
 go_enter Tryz.func195, Tryz.ntmps195
 go_wp2_with fail
 refine (inRange_any _ _ _ _).mono ?_
 rintro e w1 ⟨rfl, rfl⟩
 go_wp2_with fail
 go_ret
 exact ⟨rfl, rfl⟩
def receiptOk (d : ReceiptD) : Bool := nameOk d.reader && nameOk d.topic && inR d.index 0 511
def receiptT (d : ReceiptD) : ByteArray := ⟨#[82]⟩ ++ (octB d.reader.size ++ d.reader) ++ (octB d.topic.size ++ d.topic) ++ (octB (d.index / 256) ++ octB d.index)
def receiptText (d : ReceiptD) : ByteArray := if receiptOk d then receiptT d else ⟨#[]⟩
theorem nameOk_size {s : ByteArray} (h : nameOk s = true) : s.size ≤ 20 := by
 simp only [nameOk, Bool.and_eq_true] at h
 have := (inR_true h.1).2
 omega
theorem ReceiptOk_any (d : ReceiptD) (w : World) (hd : d.Ok) : Calls Tryz.prog 140 #[.agg #[.string d.reader, .string d.topic, .int .i64 d.index]] w fun e w' => e = .returned (.bool (receiptOk d)) ∧ Ext w w' := by
 obtain ⟨k0, k1, _⟩ := hd
 cases b1 : nameOk d.reader <;> cases b2 : nameOk d.topic
 all_goals
  go_enter Tryz.func140, Tryz.ntmps140
  go_wp2_with (first | (go_at_call_of 194 (Value.string d.reader); refine (NameOk_any _ _ k0).mono ?_; rintro e w' ⟨rfl, rfl⟩) | (go_at_call_of 194 (Value.string d.topic); refine (NameOk_any _ _ k1).mono ?_; rintro e w' ⟨rfl, rfl⟩) | (go_at_call 195; refine (isIndex_any _ _).mono ?_; rintro e w' ⟨rfl, rfl⟩))
  go_ret
  exact ⟨by simp [receiptOk, b1, b2], by go_grown⟩
theorem specReceiptOk_any (d : ReceiptD) (w : World) (hd : d.Ok) : Calls Tryz.prog 127 #[.agg #[.string d.reader, .string d.topic, .int .i64 d.index]] w fun e w' => e = .returned (.bool (receiptOk d)) ∧ Ext w w' := by
 obtain ⟨k0, k1, _⟩ := hd
 cases b1 : nameOk d.reader <;> cases b2 : nameOk d.topic
 all_goals
  go_enter Tryz.func127, Tryz.ntmps127
  go_wp2_with (first | (go_at_call_of 185 (Value.string d.reader); refine (specNameOk_any _ _ k0).mono ?_; rintro e w' ⟨rfl, rfl⟩) | (go_at_call_of 185 (Value.string d.topic); refine (specNameOk_any _ _ k1).mono ?_; rintro e w' ⟨rfl, rfl⟩) | (go_at_call 181; refine (l01In_any _ _ _ _).mono ?_; rintro e w' ⟨rfl, rfl⟩))
  go_ret
  exact ⟨by simp [receiptOk, b1, b2], by go_grown⟩
theorem ReceiptText_any (d : ReceiptD) (w : World) (hd : d.Ok) : Calls Tryz.prog 157 #[.agg #[.string d.reader, .string d.topic, .int .i64 d.index]] w fun e w' => e = .returned (.tuple #[.string (receiptText d), .bool (receiptOk d)]) ∧ Ext w w' := by
 cases b : receiptOk d
 · have Ht := hU (show receiptText d = ⟨#[]⟩ by simp [receiptText, b])
   go_enter Tryz.func157, Tryz.ntmps157
   go_wp2_with fail
   have he := Ext.new (Below.refl w.heap.size w) (.cells #[.string d.reader, .string d.topic, .int .i64 d.index] 77)
   refine (ReceiptOk_any d _ hd).mono ?_
   rintro e w1 ⟨rfl, h1⟩
   replace he := he.next h1
   go_wp2_with fail
   go_ret2
   exact ⟨by rw [Ht.out]; rfl, he⟩
 · have Ht := hU (show receiptText d = receiptT d by simp [receiptText, b])
   have hb := b
   simp only [receiptOk, Bool.and_eq_true] at hb
   have z1 := nameOk_size hb.1.1
   have z2 := nameOk_size hb.1.2
   have z3 := inR_true hb.2
   obtain ⟨z3, z4⟩ := z3
   clear hb
   have y1 : (octB (d.reader.size : Int)).size ≤ 1 := Nat.le_refl _
   have y2 : (octB (d.topic.size : Int)).size ≤ 1 := Nat.le_refl _
   have y3 : (octB (d.index / 256)).size ≤ 1 := Nat.le_refl _
   have y4 : (octB d.index).size ≤ 1 := Nat.le_refl _
   have n1 : ¬ 9223372036854775807 < 1 + ((octB (d.reader.size : Int)).size + d.reader.size) := by omega
   have n2 : ¬ 9223372036854775807 < 1 + ((octB (d.reader.size : Int)).size + d.reader.size) + ((octB (d.topic.size : Int)).size + d.topic.size) := by omega
   have n3 : ¬ 9223372036854775807 < 1 + ((octB (d.reader.size : Int)).size + d.reader.size) + ((octB (d.topic.size : Int)).size + d.topic.size) + ((octB (d.index / 256)).size + (octB d.index).size) := by omega
   go_enter Tryz.func157, Tryz.ntmps157
   go_wp2_with fail
   have hB := Blk.new w 77 #[.string d.reader, .string d.topic, .int .i64 d.index]
   have he := Ext.new (Below.refl w.heap.size w) (.cells #[.string d.reader, .string d.topic, .int .i64 d.index] 77)
   refine (ReceiptOk_any d _ hd).mono ?_
   rintro e w1 ⟨rfl, h1⟩
   replace he := he.next h1; replace hB := hB.ext h1; clear h1
   obtain ⟨g, hg⟩ : ∃ g, g = w.heap.size := ⟨_, rfl⟩
   rw [← hg] at hB
   rw [← hg]
   clear hg
   have c0 : w1.cell? ⟨g, 0, none⟩ = some (.string d.reader) := hB.cell 0
   have c1 : w1.cell? ⟨g, 1, none⟩ = some (.string d.topic) := hB.cell 1
   have c2 : w1.cell? ⟨g, 2, none⟩ = some (.int .i64 d.index) := hB.cell 2
   go_wp2_with fail
   go_region_held3 (fun w' => w'.cell? ⟨g, 0, none⟩ = some (.string d.reader) ∧ w'.cell? ⟨g, 1, none⟩ = some (.string d.topic) ∧ w'.cell? ⟨g, 2, none⟩ = some (.int .i64 d.index) ∧ Blk w' g 77 #[.string d.reader, .string d.topic, .int .i64 d.index] ∧ Ext w w')
    (first
     | exact ⟨c0, c1, c2, hB.drew, he.drew⟩
     | (go_split_ands; refine ⟨?_, ?_, ?_, ?_, ?_⟩ <;> assumption)
     | (go_split_ands; have hB' := Blk.ext (by assumption) h1; exact ⟨hB'.cell 0, hB'.cell 1, hB'.cell 2, hB', Ext.next (by assumption) h1⟩))
    (first
     | (go_at_call_of 208 (Value.string d.reader); refine (shortS_any _ _ (by omega)).mono ?_; rintro e w' ⟨rfl, h1⟩)
     | (go_at_call_of 208 (Value.string d.topic); refine (shortS_any _ _ (by omega)).mono ?_; rintro e w' ⟨rfl, h1⟩)
     | (go_at_call 209; refine (pair_any _ _ (by omega) (by omega)).mono ?_; rintro e w' ⟨rfl, h1⟩))
   all_goals
    go_wp2_with fail
    go_ret2
    refine ⟨by rw [Ht.out]; rfl, ?_⟩
    go_split_ands
    assumption
theorem specReceiptText_any (d : ReceiptD) (w : World) (hd : d.Ok) : Calls Tryz.prog 126 #[.agg #[.string d.reader, .string d.topic, .int .i64 d.index]] w fun e w' => e = .returned (.tuple #[.string (receiptText d), .bool (receiptOk d)]) ∧ Ext w w' := by
 cases b : receiptOk d
 · have Ht := hU (show receiptText d = ⟨#[]⟩ by simp [receiptText, b])
   go_enter Tryz.func126, Tryz.ntmps126
   go_wp2_with fail
   have he := Ext.new (Below.refl w.heap.size w) (.cells #[.string d.reader, .string d.topic, .int .i64 d.index] 77)
   refine (specReceiptOk_any d _ hd).mono ?_
   rintro e w1 ⟨rfl, h1⟩
   replace he := he.next h1
   go_wp2_with fail
   go_ret2
   exact ⟨by rw [Ht.out]; rfl, he⟩
 · have Ht : Hid (receiptText d = ⟨#[82]⟩ ++ (lowB d.reader.size 1 ++ d.reader) ++ (lowB d.topic.size 1 ++ d.topic) ++ lowB d.index.toNat 2) := by
    have h0 : 0 ≤ d.index := by simp only [receiptOk, Bool.and_eq_true] at b; exact (inR_true b.2).1
    rw [lowB_one, lowB_one, lowB_two, Int.toNat_of_nonneg h0]
    exact hU (by simp [receiptText, b, receiptT])
   have hb := b
   simp only [receiptOk, Bool.and_eq_true] at hb
   have z1 := nameOk_size hb.1.1
   have z2 := nameOk_size hb.1.2
   have z3 := inR_true hb.2
   obtain ⟨z3, z4⟩ := z3
   clear hb
   have y1 : (lowB d.reader.size 1).size ≤ 1 := by rw [lowB_size]; exact Nat.le_refl _
   have y2 : (lowB d.topic.size 1).size ≤ 1 := by rw [lowB_size]; exact Nat.le_refl _
   have y3 : (lowB d.index.toNat 2).size ≤ 2 := by rw [lowB_size]; exact Nat.le_refl _
   have n1 : ¬ 9223372036854775807 < 1 + ((lowB d.reader.size 1).size + d.reader.size) := by omega
   have n2 : ¬ 9223372036854775807 < 1 + ((lowB d.reader.size 1).size + d.reader.size) + ((lowB d.topic.size 1).size + d.topic.size) := by omega
   have n3 : ¬ 9223372036854775807 < 1 + ((lowB d.reader.size 1).size + d.reader.size) + ((lowB d.topic.size 1).size + d.topic.size) + (lowB d.index.toNat 2).size := by omega
   go_enter Tryz.func126, Tryz.ntmps126
   go_wp2_with fail
   have hB := Blk.new w 77 #[.string d.reader, .string d.topic, .int .i64 d.index]
   have he := Ext.new (Below.refl w.heap.size w) (.cells #[.string d.reader, .string d.topic, .int .i64 d.index] 77)
   refine (specReceiptOk_any d _ hd).mono ?_
   rintro e w1 ⟨rfl, h1⟩
   replace he := he.next h1; replace hB := hB.ext h1; clear h1
   obtain ⟨g, hg⟩ : ∃ g, g = w.heap.size := ⟨_, rfl⟩
   rw [← hg] at hB
   rw [← hg]
   clear hg
   have c0 : w1.cell? ⟨g, 0, none⟩ = some (.string d.reader) := hB.cell 0
   have c1 : w1.cell? ⟨g, 1, none⟩ = some (.string d.topic) := hB.cell 1
   have c2 : w1.cell? ⟨g, 2, none⟩ = some (.int .i64 d.index) := hB.cell 2
   go_wp2_with fail
   go_region_held3 (fun w' => w'.cell? ⟨g, 0, none⟩ = some (.string d.reader) ∧ w'.cell? ⟨g, 1, none⟩ = some (.string d.topic) ∧ w'.cell? ⟨g, 2, none⟩ = some (.int .i64 d.index) ∧ Blk w' g 77 #[.string d.reader, .string d.topic, .int .i64 d.index] ∧ Ext w w')
    (first
     | exact ⟨c0, c1, c2, hB.drew, he.drew⟩
     | (go_split_ands; refine ⟨?_, ?_, ?_, ?_, ?_⟩ <;> assumption)
     | (go_split_ands; have hB' := Blk.ext (by assumption) h1; exact ⟨hB'.cell 0, hB'.cell 1, hB'.cell 2, hB', Ext.next (by assumption) h1⟩))
    (first
     | (go_at_call_of 184 (Value.string d.reader); refine (l03Short_any _ _ (by omega)).mono ?_; rintro e w' ⟨rfl, h1⟩)
     | (go_at_call_of 184 (Value.string d.topic); refine (l03Short_any _ _ (by omega)).mono ?_; rintro e w' ⟨rfl, h1⟩)
     | (go_at_call 183; refine (l03NumberI_any _ 2 _ (by omega) (by omega) (by decide)).mono ?_; rintro e w' ⟨rfl, h1⟩))
   all_goals
    go_wp2_with fail
    go_ret2
    refine ⟨by rw [Ht.out]; rfl, ?_⟩
    go_split_ands
    assumption
def partsB (t : Int) (k b : ByteArray) : Bool := inR t 0 1000000000 && decide ((k.size : Int) ≤ 40) && decide ((b.size : Int) ≤ 400)
def entryOk (d : EntryD) : Bool := nameOk d.topic && inR d.index 0 511 && partsB d.time d.key d.body
def leafT (d : EntryD) : ByteArray := ⟨#[69]⟩ ++ (octB d.topic.size ++ d.topic) ++ (octB (d.index / 256) ++ octB d.index) ++ lowB d.time.toNat 4 ++ (octB d.key.size ++ d.key) ++ (octB ((d.body.size : Int) / 256) ++ octB d.body.size) ++ d.body
def leafText (d : EntryD) : ByteArray := if entryOk d then leafT d else ⟨#[]⟩
theorem partsOk_any (t : Int) (k b : ByteArray) (w : World) (hk : k.size ≤ maxLen) (hb : b.size ≤ maxLen) : Calls Tryz.prog 196 #[.int .i64 t, .string k, .string b] w fun e w' => e = .returned (.bool (partsB t k b)) ∧ w = w' := by
 unfold maxLen at *
 cases c1 : inR t 0 1000000000
 · go_enter Tryz.func196, Tryz.ntmps196
   go_wp2_with (go_at_call 135; refine (inRange_any _ _ _ _).mono ?_; rintro e w' ⟨rfl, rfl⟩)
   go_ret
   exact ⟨by simp [partsB, c1], rfl⟩
 · by_cases c2 : (k.size : Int) ≤ 40
   all_goals
    go_enter Tryz.func196, Tryz.ntmps196
    go_wp2_with (go_at_call 135; refine (inRange_any _ _ _ _).mono ?_; rintro e w' ⟨rfl, rfl⟩)
    go_ret
    exact ⟨by first | (simp [partsB, c1, c2]; done) | (simp [partsB, c1]; omega), rfl⟩
theorem EntryOk_any (d : EntryD) (w : World) (hd : d.Ok) : Calls Tryz.prog 138 #[.agg #[.string d.topic, .int .i64 d.index, .int .i64 d.time, .string d.key, .string d.body]] w fun e w' => e = .returned (.bool (entryOk d)) ∧ Ext w w' := by
 obtain ⟨k0, _, _, k3, k4⟩ := hd
 cases b1 : nameOk d.topic <;> cases b2 : inR d.index 0 511
 all_goals
  go_enter Tryz.func138, Tryz.ntmps138
  go_wp2_with (first | (go_at_call 194; refine (NameOk_any _ _ k0).mono ?_; rintro e w' ⟨rfl, rfl⟩) | (go_at_call 195; refine (isIndex_any _ _).mono ?_; rintro e w' ⟨rfl, rfl⟩) | (go_at_call 196; refine (partsOk_any _ _ _ _ k3 k4).mono ?_; rintro e w' ⟨rfl, rfl⟩))
  go_ret
  exact ⟨by simp [entryOk, b1, b2], by go_grown⟩
theorem specEntryOk_any (d : EntryD) (w : World) (hd : d.Ok) : Calls Tryz.prog 124 #[.agg #[.string d.topic, .int .i64 d.index, .int .i64 d.time, .string d.key, .string d.body]] w fun e w' => e = .returned (.bool (entryOk d)) ∧ Ext w w' := by
 obtain ⟨k0, _, _, k3, k4⟩ := hd
 unfold maxLen at k3 k4
 cases b1 : nameOk d.topic
 · go_enter Tryz.func124, Tryz.ntmps124
   go_wp2_with (go_at_call 185; refine (specNameOk_any _ _ k0).mono ?_; rintro e w' ⟨rfl, rfl⟩)
   go_ret
   exact ⟨by simp [entryOk, b1], by go_grown⟩
 · cases b2 : inR d.index 0 511
   · go_enter Tryz.func124, Tryz.ntmps124
     go_wp2_with (first | (go_at_call 185; refine (specNameOk_any _ _ k0).mono ?_; rintro e w' ⟨rfl, rfl⟩) | (go_at_call 181; refine (l01In_any _ _ _ _).mono ?_; rintro e w' ⟨rfl, rfl⟩))
     go_ret
     exact ⟨by simp [entryOk, b1, b2], by go_grown⟩
   · cases b3 : inR d.time 0 1000000000
     · go_enter Tryz.func124, Tryz.ntmps124
       go_wp2_with (first | (go_at_call 185; refine (specNameOk_any _ _ k0).mono ?_; rintro e w' ⟨rfl, rfl⟩) | (go_at_call 181; refine (l01In_any _ _ _ _).mono ?_; rintro e w' ⟨rfl, rfl⟩))
       go_ret
       exact ⟨by simp [entryOk, partsB, b1, b2, b3], by go_grown⟩
     · by_cases b4 : (d.key.size : Int) ≤ 40
       all_goals
        go_enter Tryz.func124, Tryz.ntmps124
        go_wp2_with (first | (go_at_call 185; refine (specNameOk_any _ _ k0).mono ?_; rintro e w' ⟨rfl, rfl⟩) | (go_at_call 181; refine (l01In_any _ _ _ _).mono ?_; rintro e w' ⟨rfl, rfl⟩))
        go_ret
        exact ⟨by first | (simp [entryOk, partsB, b1, b2, b3, b4]; done) | (simp [entryOk, partsB, b1, b2, b3]; omega), by go_grown⟩
theorem ofInts_four (n : Nat) : ofInts [(n : Int) / 16777216 % 256, (n : Int) / 65536 % 256, (n : Int) / 256 % 256, (n : Int) % 256] = lowB n 4 := by
 show _ = octB ((n / 256 ^ 3 : Nat) : Int) ++ (octB ((n / 256 ^ 2 : Nat) : Int) ++ (octB ((n / 256 ^ 1 : Nat) : Int) ++ (octB ((n / 256 ^ 0 : Nat) : Int) ++ ⟨#[]⟩)))
 rw [append_nil]
 have e : ((n / 256 ^ 3 : Nat) : Int) = (n : Int) / 16777216 ∧ ((n / 256 ^ 2 : Nat) : Int) = (n : Int) / 65536 ∧ ((n / 256 ^ 1 : Nat) : Int) = (n : Int) / 256 ∧ ((n / 256 ^ 0 : Nat) : Int) = (n : Int) := by
  refine ⟨?_, ?_, ?_, ?_⟩ <;> simp
 rw [e.1, e.2.1, e.2.2.1, e.2.2.2]
 rfl
theorem WordTextN_any (n : Nat) (w : World) (hn : n < 4294967296) : Calls Tryz.prog 213 #[.int .u32 (n : Int)] w fun e w' => e = .returned (.string (lowB n 4)) ∧ Ext w w' := by
 have hconv := conv_bytes [(n : Int) / 16777216 % 256, (n : Int) / 65536 % 256, (n : Int) / 256 % 256, (n : Int) % 256] (by intro x hx; simp only [List.mem_cons, List.not_mem_nil, or_false] at hx; omega) w
 rw [ofInts_four] at hconv
 simp only [List.length_cons, List.length_nil, Nat.zero_add, List.map_cons, List.map_nil, Nat.reduceAdd, show (n : Int) / 16777216 % 256 = (n : Int) / 16777216 from by omega] at hconv
 go_enter Tryz.func213, Tryz.ntmps213
 go_wp2_with fail
 go_ret
 exact ⟨rfl, by go_grown⟩
theorem WordTextI_any (n : Int) (w : World) (h0 : 0 ≤ n) (hn : n < 4294967296) : Calls Tryz.prog 213 #[.int .u32 n] w fun e w' => e = .returned (.string (lowB n.toNat 4)) ∧ Ext w w' := by
 obtain ⟨m, rfl⟩ := Int.eq_ofNat_of_zero_le h0
 rw [Int.toNat_natCast]
 exact WordTextN_any m w (by omega)
section
variable {P : Program} {ops : Array Oper} {Q : Exit → Act → World → Prop} {md : Region.Mode}
def afterOf (md : Region.Mode) (ops : Array Oper) (i : Nat) : List Nat :=
 match ops[i]? with
 | some o => (o.after.toList.filter (Region.binds md)).map (·.on)
 | none => []
def fillA (vals : Nat → Value) : List (Nat × Option Tmp) → Act → Act
 | [], a => a
 | (i, d) :: T, a => fillA vals T (a.put d (vals i))
def Apart (x y : Nat × Option Tmp) : Prop := x.1 ≠ y.1 ∧ ∀ d, x.2 = some d → y.2 ≠ some d
structure SameOn (X : List Tmp) (a b : Act) : Prop where
 fst : a.tmps.size = b.tmps.size
 snd : ∀ t ∈ X, a.tmps.getD t undef = b.tmps.getD t undef
 dfs : a.defers = b.defers
theorem SameOn.put {X : List Tmp} {a b : Act} (h : SameOn X a b) (d : Option Tmp) (v : Value) : SameOn X (a.put d v) (b.put d v) := by
 obtain ⟨h1, h2, h3⟩ := h
 cases d with
 | none => exact ⟨h1, h2, h3⟩
 | some d =>
   refine ⟨by simpa [Act.put] using h1, fun t ht => ?_, h3⟩
   have := h2 t ht
   simp only [Act.put]
   by_cases hd : d = t
   · subst hd
     by_cases hs : d < a.tmps.size
     · simp [hs, h1 ▸ hs]
     · simp [Array.getElem?_eq_none, hs, h1 ▸ hs]
   · simpa [Array.getElem?_setIfInBounds_ne hd] using this
theorem SameOn.far {X : List Tmp} {a b : Act} (h : SameOn X a b) (d : Option Tmp) (v : Value) (hd : ∀ e, d = some e → e ∉ X) : SameOn X a (b.put d v) := by
 obtain ⟨h1, h2, h3⟩ := h
 cases d with
 | none => exact ⟨h1, h2, h3⟩
 | some d =>
   refine ⟨by simpa [Act.put] using h1, fun t ht => ?_, h3⟩
   have hne : d ≠ t := fun e => hd d rfl (e ▸ ht)
   simp only [Act.put]
   rw [h2 t ht]
   simp [Array.getElem?_setIfInBounds_ne hne]
theorem SameOn.refl (X : List Tmp) (a : Act) : SameOn X a a := ⟨rfl, fun _ _ => rfl, rfl⟩
/-! ### The bunch -/
def upTo (md : Region.Mode) (ops : Array Oper) (T : List Nat) : Nat → List Nat → List Nat
 | 0, l => l
 | k + 1, l => upTo md ops T k (T.filter fun t => l.contains t || l.any fun x => (afterOf md ops x).contains t)
def bunchB (md : Region.Mode) (ops : Array Oper) (T : List (Nat × Option Tmp)) (listed : Array Bool) : Bool :=
 (T.map (·.1)).all (fun i => !listed.getD i true) &&
 (T.zipIdx.all fun x => T.zipIdx.all fun y => x.2 == y.2 || (x.1.1 != y.1.1 && (x.1.2.isNone || x.1.2 != y.1.2))) &&
 (T.all fun x => match ops[x.1]? with
  | none => false
  | some o => o.dst == x.2 && (match o.op with | .select _ _ => false | _ => true) && (T.all fun y => match y.2 with | none => true | some d => !(o.looksAt ops).contains d || (afterOf md ops x.1).contains y.1) &&
    ((afterOf md ops x.1).all fun j => decide (j < x.1) && ((T.map (·.1)).contains j || listed.getD j false))) &&
 ((List.range ops.size).all fun i => (T.map (·.1)).contains i || listed.getD i true ||
   ((afterOf md ops i).any fun j => !(T.map (·.1)).contains j && !listed.getD j false) ||
   ((T.map (·.1)).all fun t => (upTo md ops (T.map (·.1)) T.length ((T.map (·.1)).filter fun t => (afterOf md ops i).contains t)).contains t))
structure BunchFacts (md : Region.Mode) (ops : Array Oper) (T : List (Nat × Option Tmp)) (listed : Array Bool) : Prop where
 un : ∀ x ∈ T, listed.getD x.1 true = false
 apart : T.Pairwise Apart
 op : ∀ x ∈ T, ∃ o, ops[x.1]? = some o ∧ o.dst = x.2 ∧ (∀ cs c, o.op ≠ .select cs c) ∧ (∀ y ∈ T, ∀ d, y.2 = some d → d ∈ o.looksAt ops → y.1 ∈ afterOf md ops x.1) ∧ ∀ j ∈ afterOf md ops x.1, j < x.1 ∧ (j ∈ T.map (·.1) ∨ listed.getD j false = true)
 other : ∀ i, i < ops.size → i ∉ T.map (·.1) → listed.getD i true = false → (∃ j ∈ afterOf md ops i, j ∉ T.map (·.1) ∧ listed.getD j false = false) ∨ ∀ t ∈ T.map (·.1), t ∈ upTo md ops (T.map (·.1)) T.length ((T.map (·.1)).filter fun t => (afterOf md ops i).contains t)
theorem BunchFacts.of {T : List (Nat × Option Tmp)} {listed : Array Bool} (h : bunchB md ops T listed = true) : BunchFacts md ops T listed := by
 unfold bunchB at h
 simp only [Bool.and_eq_true] at h
 obtain ⟨⟨⟨h1, h2⟩, h3⟩, h4⟩ := h
 refine ⟨fun x hx => ?_, ?_, fun x hx => ?_, fun i hi hn hu => ?_⟩
 · have := List.all_eq_true.1 h1 x.1 (List.mem_map_of_mem hx)
   simpa using this
 · rw [List.pairwise_iff_getElem]
   intro i j hi hj hij
   have a1 := List.all_eq_true.1 h2 (T[i], i) (by rw [List.mem_zipIdx_iff_getElem?]; simp [hi])
   have a2 := List.all_eq_true.1 a1 (T[j], j) (by rw [List.mem_zipIdx_iff_getElem?]; simp [hj])
   have hne : (i == j) = false := by simpa using (by omega : i ≠ j)
   simp only [hne, Bool.false_or, Bool.and_eq_true] at a2
   refine ⟨by simpa using a2.1, fun d hd => ?_⟩
   have := a2.2
   rw [hd] at this
   intro h5
   rw [h5] at this
   simp at this
 · have a := List.all_eq_true.1 h3 x hx
   cases ho : ops[x.1]? with
   | none => simp [ho] at a
   | some o =>
     simp only [ho, Bool.and_eq_true] at a
     obtain ⟨⟨⟨a1, a2⟩, a3⟩, a4⟩ := a
     refine ⟨o, rfl, by simpa using a1, fun cs c e => by rw [e] at a2; simp at a2, fun y hy d hd hl => ?_, fun j hj => ?_⟩
     · have := List.all_eq_true.1 a3 y hy
       rw [hd] at this
       simp [hl] at this
       exact this
     · have := List.all_eq_true.1 a4 j hj
       simp only [Bool.and_eq_true, decide_eq_true_eq, Bool.or_eq_true] at this
       exact ⟨this.1, this.2.imp (fun h => by simpa using h) id⟩
 · have a := List.all_eq_true.1 h4 i (List.mem_range.2 hi)
   simp only [Bool.or_eq_true] at a
   rcases a with ((a | a) | a) | a
   · exact absurd (by simpa using a) hn
   · rw [hu] at a; cases a
   · obtain ⟨j, hj, h5⟩ := List.any_eq_true.1 a
     simp only [Bool.and_eq_true, Bool.not_eq_true'] at h5
     exact .inl ⟨j, hj, by simpa using h5.1, h5.2⟩
   · exact .inr fun t ht => by simpa using List.all_eq_true.1 a t ht
def BunchStep (P : Program) (md : Region.Mode) (ops : Array Oper) (Q : Exit → Act → World → Prop) (T : List (Nat × Option Tmp)) (a0 : Act) (Pv : Nat → Value → World → Prop) (S : World → Prop) (R : World → World → Prop) (x : Nat × Option Tmp) : Prop :=
 ∀ (vals : Nat → Value) (w : World), (∀ j ∈ afterOf md ops x.1, j ∈ T.map (·.1) → Pv j (vals j) w) → S w →
  wpOp P ops Q x.1 (fun a' w' => ∃ v, a' = (fillA vals T a0).put x.2 v ∧ Pv x.1 v w' ∧ S w' ∧ R w w') (fillA vals T a0) w
structure StepG (p : Prop) : Prop where
 out : p
def BunchVals (Pv : Nat → Value → World → Prop) (vals : Nat → Value) (w : World) : List Nat → Prop
 | [] => True
 | i :: ds => Pv i (vals i) w ∧ BunchVals Pv vals w ds
theorem BunchVals.all {Pv : Nat → Value → World → Prop} {vals : Nat → Value} {w : World} : ∀ (ds : List Nat), (∀ i ∈ ds, Pv i (vals i) w) → BunchVals Pv vals w ds
 | [], _ => trivial
 | i :: ds, h => ⟨h i (by simp), BunchVals.all ds fun j hj => h j (by simp [hj])⟩
def BunchAll (P : Program) (md : Region.Mode) (ops : Array Oper) (Q : Exit → Act → World → Prop) (T : List (Nat × Option Tmp)) (a0 : Act) (Pv : Nat → Value → World → Prop) (S : World → Prop) (R : World → World → Prop) (T' : List (Nat × Option Tmp)) : Prop := ∀ x ∈ T', BunchStep P md ops Q T a0 Pv S R x
section
variable {T T' : List (Nat × Option Tmp)} {a0 : Act} {Pv : Nat → Value → World → Prop} {S : World → Prop} {R : World → World → Prop}
theorem BunchAll.nil : BunchAll P md ops Q T a0 Pv S R [] := fun _ h => by cases h
theorem BunchAll.cons {i : Nat} {d : Option Tmp} {o : Oper} (ds : List Nat) (ho : ops[i]? = some o) (hg : o.guard = none) (hd : o.dst = d) (hds : (ds.all fun j => (afterOf md ops i).contains j && (T.map (·.1)).contains j) = true)
 (h : ∀ (vals : Nat → Value) (w : World), BunchVals Pv vals w ds → S w → ∀ K : Act → World → Prop, Shut (∀ a' w', (∃ v, a' = (fillA vals T a0).put d v ∧ Pv i v w') → S w' → R w w' → K a' w') → StepG (if Region.wanted o (yielded ops (fillA vals T a0).tmps) = true then Oper.wp P o (fillA vals T a0) w K Q else K ((fillA vals T a0).put o.dst undef) w))
 (hs : BunchAll P md ops Q T a0 Pv S R T') : BunchAll P md ops Q T a0 Pv S R ((i, d) :: T') := fun x hx => by
 rcases List.mem_cons.1 hx with rfl | hx
 · intro vals w hv hS
   unfold wpOp
   simp only [ho]
   have hw : Region.wanted o (yielded ops (fillA vals T a0).tmps) = true := by simp [Region.wanted, hg]
   rw [if_pos hw]
   have h2 := h vals w (BunchVals.all ds fun j hj => by
    have := List.all_eq_true.1 hds j hj
    simp only [Bool.and_eq_true, List.contains_iff_mem] at this
    exact hv j this.1 this.2) hS (fun a' w' => ∃ v, a' = (fillA vals T a0).put d v ∧ Pv i v w' ∧ S w' ∧ R w w') (fun a' w' ⟨v, e, hp⟩ hS' hR' => ⟨v, e, hp, hS', hR'⟩)
   replace h2 := h2.out
   rw [if_pos hw] at h2
   exact .inl h2
 · exact hs x hx
end
theorem takeH {S : World → Prop} {i : Nat} {oi : Oper} {v : Value} {fuel : Nat} {listed : Array Bool} {a : Act} {w : World} (d : Option Tmp) (hi : ops[i]? = some oi) (hd : oi.dst = d)
 (hs : Region.noSelect ops = true) (hf : Region.free md ops listed i = true) (hr : (Region.ready md ops listed).contains i = true)
 (hQ : ∀ c (a b : Act) w, a.defers = b.defers → Q (.panic c) a w → Q (.panic c) b w) (hy : YieldsIf P ops S oi v a) (hS : S w)
 (h : wpAnyH P md ops Q S fuel (listed.setIfInBounds i true) (a.put d v) w) : wpAnyH P md ops Q S (fuel + 1) listed a w := by
 subst hd
 exact wpAnyH_take hi hs hf hr (fun c a w => hQ c _ _ w (by cases oi.dst <;> rfl)) hy hS h
theorem takeQ {S : World → Prop} {oi : Oper} {fuel : Nat} {listed : Array Bool} {a : Act} {w : World} (i : Nat) (v : Value) (d : Option Tmp) (hi : ops[i]? = some oi) (hd : oi.dst = d)
 (hk : (Region.noSelect ops && Region.free md ops listed i && (Region.ready md ops listed).contains i) = true) (hy : YieldsIf P ops S oi v a) (hS : S w)
 (h : wpAnyH P md ops Q S fuel (listed.setIfInBounds i true) (a.put d v) w)
 (hQ : ∀ c (a b : Act) w, a.defers = b.defers → Q (.panic c) a w → Q (.panic c) b w := by intro _ a b _ e h; cases a; cases b; cases e; exact h) : wpAnyH P md ops Q S (fuel + 1) listed a w := by
 rw [Bool.and_eq_true, Bool.and_eq_true] at hk
 exact takeH d hi hd hk.1.1 hk.1.2 hk.2 hQ hy hS h
theorem pz1 {α : Type} {l : List α} {i : Nat} {a : α} : l.toArray.setIfInBounds i a = (l.set i a).toArray := List.setIfInBounds_toArray ..
theorem pz2 {α : Type} {x : α} {xs : List α} {a : α} : (x :: xs).set 0 a = a :: xs := List.set_cons_zero ..
theorem pz3 {α : Type} {x : α} {xs : List α} {i : Nat} {a : α} : (x :: xs).set (i + 1) a = x :: xs.set i a := List.set_cons_succ ..
theorem zA : (∀ (a : Act) (d : Tmp) (v : Value), a.put (some d) v = { tmps := a.tmps.setIfInBounds d v, defers := a.defers }) ∧ (∀ (a : Act) (v : Value), a.put none v = a) ∧ (∀ {α : Type} (l : List α) (i : Nat) (a : α), l.toArray.setIfInBounds i a = (l.set i a).toArray) ∧ (∀ {α : Type} (x : α) (xs : List α) (a : α), (x :: xs).set 0 a = a :: xs) ∧ (∀ {α : Type} (x : α) (xs : List α) (i : Nat) (a : α), (x :: xs).set (i + 1) a = x :: xs.set i a) := ⟨fun _ _ _ => rfl, fun _ _ => rfl, fun _ _ _ => pz1, fun _ _ _ => pz2, fun _ _ _ _ => pz3⟩
theorem zB : (∀ (f : Nat → Value) (a : Act), fillA f [] a = a) ∧ (∀ (f : Nat → Value) (i : Nat) (d : Option Tmp) (T : List (Nat × Option Tmp)) (a : Act), fillA f ((i, d) :: T) a = fillA f T (a.put d (f i))) ∧ (∀ (a : Act) (d : Tmp) (v : Value), a.put (some d) v = { tmps := a.tmps.setIfInBounds d v, defers := a.defers }) ∧ (∀ (a : Act) (v : Value), a.put none v = a) ∧ (∀ {α : Type} (l : List α) (i : Nat) (a : α), l.toArray.setIfInBounds i a = (l.set i a).toArray) ∧ (∀ {α : Type} (x : α) (xs : List α) (a : α), (x :: xs).set 0 a = a :: xs) ∧ (∀ {α : Type} (x : α) (xs : List α) (i : Nat) (a : α), (x :: xs).set (i + 1) a = x :: xs.set i a) := ⟨fun _ _ => rfl, fun _ _ _ _ _ => rfl, zA⟩
theorem oneH {S : World → Prop} (i : Nat) {oi : Oper} {fuel : Nat} {listed : Array Bool} {a : Act} {w : World} (d : Option Tmp) (hr : Region.ready md ops listed = [i]) (hi : ops[i]? = some oi) (hg : oi.guard = none) (hd : oi.dst = d)
 (h : ∀ K' : Act → World → Prop, Shut (∀ a' w', (∃ v, a' = a.put d v) → S w' → (S w' → wpAnyH P md ops Q S fuel (listed.setIfInBounds i true) a' w') → K' a' w') → StepG (if Region.wanted oi (yielded ops a.tmps) = true then Oper.wp P oi a w K' Q else K' (a.put oi.dst undef) w)) : wpAnyH P md ops Q S (fuel + 1) listed a w := by
 refine wpAnyH_all hr (by simp) fun j hj => ?_
 obtain rfl : j = i := by simpa using hj
 unfold wpOp
 simp only [hi]
 have hw : Region.wanted oi (yielded ops a.tmps) = true := by simp [Region.wanted, hg]
 rw [if_pos hw]
 have h2 := h (fun a' w' => S w' ∧ wpAnyH P md ops Q S fuel (listed.setIfInBounds j true) a' w') fun a' w' _ hS hW => ⟨hS, hW hS⟩
 replace h2 := h2.out
 rw [if_pos hw] at h2
 exact .inl h2
theorem oneHw {S : World → Prop} (i : Nat) {oi : Oper} {fuel : Nat} {listed : Array Bool} {a : Act} {w : World} (d : Option Tmp) (hr : Region.ready md ops listed = [i]) (hi : ops[i]? = some oi) (hw : Region.wanted oi (yielded ops a.tmps) = true) (hd : oi.dst = d)
 (h : ∀ K' : Act → World → Prop, Shut (∀ a' w', (∃ v, a' = a.put d v) → S w' → (S w' → wpAnyH P md ops Q S fuel (listed.setIfInBounds i true) a' w') → K' a' w') → StepG (if Region.wanted oi (yielded ops a.tmps) = true then Oper.wp P oi a w K' Q else K' (a.put oi.dst undef) w)) : wpAnyH P md ops Q S (fuel + 1) listed a w := by
 refine wpAnyH_all hr (by simp) fun j hj => ?_
 obtain rfl : j = i := by simpa using hj
 unfold wpOp
 simp only [hi]
 rw [if_pos hw]
 have h2 := h (fun a' w' => S w' ∧ wpAnyH P md ops Q S fuel (listed.setIfInBounds j true) a' w') fun a' w' _ hS hW => ⟨hS, hW hS⟩
 replace h2 := h2.out
 rw [if_pos hw] at h2
 exact .inl h2
end
end Go.Proofs.YtlgdghpnfclgpaaGreat
