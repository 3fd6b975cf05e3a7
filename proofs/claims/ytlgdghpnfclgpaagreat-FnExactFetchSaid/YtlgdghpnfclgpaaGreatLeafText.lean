/-
  Draw; Draw2; Draw3; Rets; Logs; LeafText: No condition.
-/
import Derived.Test.YtlgdghpnfclgpaaGreatNest
import Derived.Test.YtlgdghpnfclgpaaGreatTypes
import Derived.Laws.BitsLemmas
import Derived.Test.YtlgdghpnfclgpaaGreatSpecTop
import Derived.Deep.RegionHeld3
import Derived.Test.YtlgdghpnfclgpaaGreatMem
import Derived.Test.YtlgdghpnfclgpaaGreatAppNew
import Derived.Test.YtlgdghpnfclgpaaGreatBunch
namespace Go.Proofs.YtlgdghpnfclgpaaGreat
set_option linter.unusedSimpArgs false
open Go.RowKit
set_option linter.unusedVariables false

theorem ExtBut.ownGrown {W w w' : World} {g K e size n : Nat} {v : Value} {xs : List Value} (he : ExtBut g W w) (hK : W.heap.size ≤ K) (hown : w.ownsRow K e size v n xs) (hg : w.grownBy w' v.ownBlock) : ExtBut g W w' :=
 ⟨hg.os.trans he.os, hg.tape.trans he.tape, hg.output.trans he.output, Nat.le_trans he.size hg.size, fun k hk hne =>
  (hg.block k (Nat.lt_of_lt_of_le hk he.size) (fun x => by have := (hown.lt k x.symm).1; omega)).trans (he.block k hk hne)⟩
theorem ExtBut.alloc {W w : World} {g : Nat} (he : ExtBut g W w) (o : Obj) : ExtBut g W (w.alloc o) :=
 he.next (World.grownBy_alloc w o _)

theorem ret_ctt {P : Program} {fn : Func} {R : Ending → World → Prop} {a : Act} {w : World} {s0 s1 s2 : Tmp} {ty0 g0 t0 : Nat} {cs0 : Array Value} {d0 : TypeDesc} (h : fn.results = #[.cell s0 ty0, .tmp s1, .tmp s2])
 (hp0 : a.tmps.getD s0 undef = .pointer (some ⟨g0, 0, none⟩)) (hB0 : Blk w g0 t0 cs0) (hu0 : P.underlying ty0 = some d0) (hd0 : (match d0 with | .struct _ | .array _ _ => true | _ => false) = true) (hi0 : (P.info? ty0).map (·.size) = some cs0.size)
 (hdef : a.defers = []) (hR : R (.returned (.tuple #[.agg cs0, a.tmps.getD s1 undef, a.tmps.getD s2 undef])) w) : bodyPost P fn R .ret a w := by
 refine bodyPost_ret (v := .tuple #[.agg cs0, a.tmps.getD s1 undef, a.tmps.getD s2 undef]) ?_ hdef hR
 have h0 := run_loadVar_row w g0 t0 ty0 cs0 (0, 0) d0 hB0 hu0 hd0 hi0
 simp only [results, h]
 rw [show (#[ResultVar.cell s0 ty0, ResultVar.tmp s1, ResultVar.tmp s2] : Array ResultVar) = #[.cell s0 ty0, .tmp s1, .tmp s2] from rfl]
 simp [Sem.run_bind, Result.andThen]
 have hp0' : a.tmps[s0]?.getD undef = .pointer (some ⟨g0, 0, none⟩) := by rw [← hp0]; simp
 rw [hp0']
 simp [asAddr, Sem.run_pure, Result.andThen, h0]
set_option maxHeartbeats 1000000
set_option maxRecDepth 100000
def ofTopic (t : ByteArray) (e : EntryD) : Bool := e.topic.toList == t.toList
def cntT (l : List EntryD) (t : ByteArray) : Nat := l.countP (ofTopic t)
theorem cntT_le (l : List EntryD) (t : ByteArray) : cntT l t ≤ l.length := List.countP_le_length
theorem cntT_next {l : List EntryD} {t : ByteArray} {k : Nat} {d : EntryD} (hd : l[k]? = some d) : cntT (l.take (k + 1)) t = cntT (l.take k) t + if ofTopic t d then 1 else 0 := by
 obtain ⟨hk, rfl⟩ := List.getElem?_eq_some_iff.1 hd
 rw [List.take_succ_eq_append_getElem hk]
 simp only [cntT, List.countP_append, List.countP_singleton]
theorem entry_at {l : List EntryD} {w : World} {b off : Nat} {k : Nat} {d : EntryD} (hc : ∀ j u, (l.flatMap EntryD.cells)[k * 5 + j]? = some u → w.cell? ⟨b, off + k * 5 + j, none⟩ = some u) (hd : l[k]? = some d) :
 w.cell? ⟨b, off + k * 5, none⟩ = some (.string d.topic) ∧ w.cell? ⟨b, off + k * 5 + 1, none⟩ = some (.int .i64 d.index) ∧ w.cell? ⟨b, off + k * 5 + 2, none⟩ = some (.int .i64 d.time) ∧ w.cell? ⟨b, off + k * 5 + 3, none⟩ = some (.string d.key) ∧ w.cell? ⟨b, off + k * 5 + 4, none⟩ = some (.string d.body) :=
 ⟨hc 0 _ (flat_at _ 5 EntryD.cells_length l k 0 d hd (by omega)), hc 1 _ (flat_at _ 5 EntryD.cells_length l k 1 d hd (by omega)), hc 2 _ (flat_at _ 5 EntryD.cells_length l k 2 d hd (by omega)), hc 3 _ (flat_at _ 5 EntryD.cells_length l k 3 d hd (by omega)), hc 4 _ (flat_at _ 5 EntryD.cells_length l k 4 d hd (by omega))⟩
theorem l09Count_any (A : Option Addr) (c : Nat) (l : List EntryD) (t : ByteArray) (w : World) (hr : ReadsL w w.heap.size EntryD.cells 5 A l) (hl : l.length ≤ 1048576) :
 Calls Tryz.prog 125 #[.slice A l.length c, .string t] w fun e w' => e = .returned (.int .i64 (cntT l t : Int)) ∧ w = w' := by
 go_enter Tryz.func125, Tryz.ntmps125
 go_wp2_with fail
 go_loopw [5, 6] (fun n i wr => ∃ (k : Nat), k ≤ l.length ∧ i = .int .i64 k ∧ n = .int .i64 (cntT (l.take k) t : Int) ∧ w = wr) (fun _ i _ => l.length - (intOf i).toNat)
 case atStart => exact ⟨0, Nat.zero_le _, rfl, rfl, rfl⟩
 case round =>
  obtain ⟨k, hk, rfl, rfl, rfl⟩ := hrel
  by_cases hlt : k < l.length
  case neg =>
   obtain rfl : k = l.length := by omega
   have d1 : decide ((l.length : Int) < (l.length : Int)) = false := by simp
   have E := hU (show cntT (l.take l.length) t = cntT l t by rw [List.take_length])
   go_wp2_with fail
   go_ret
   exact ⟨by rw [E.out]; rfl, rfl⟩
  have d1 : decide ((k : Int) < (l.length : Int)) = true := by rw [decide_eq_true_eq]; omega
  obtain ⟨b, off, rfl, hb, hc⟩ := Reads.at_ hr (k := k) hlt
  obtain ⟨d, hd⟩ : ∃ d, d = l[k] := ⟨_, rfl⟩
  have hdl : l[k]? = some d := by rw [hd]; exact List.getElem?_eq_getElem hlt
  obtain ⟨c0, _⟩ := entry_at hc hdl
  have Hn := hU (cntT_next (t := t) hdl)
  have hcl := cntT_le (l.take k) t
  rw [List.length_take] at hcl
  have hcl2 : cntT (l.take k) t ≤ 1048576 := by omega
  clear hc hd hdl hcl
  cases b1 : (d.topic.toList == t.toList)
  · have E := hU (show cntT (l.take (k + 1)) t = cntT (l.take k) t by rw [Hn.out, ofTopic, b1]; rfl)
    go_wp2_with fail
    go_roundw
    case rel => exact ⟨k + 1, by omega, by go_num, by rw [E.out], trivial⟩
    case measure => simp [intOf]; omega
  · have E := hU (show cntT (l.take (k + 1)) t = cntT (l.take k) t + 1 by rw [Hn.out, ofTopic, b1]; rfl)
    go_wp2_with fail
    go_roundw
    case rel => exact ⟨k + 1, by omega, by go_num, by rw [E.out]; go_num, trivial⟩
    case measure => simp [intOf]; omega
set_option maxHeartbeats 2000000
theorem entryOk_bounds {d : EntryD} (h : entryOk d = true) : d.topic.size ≤ 20 ∧ 0 ≤ d.index ∧ d.index ≤ 511 ∧ 0 ≤ d.time ∧ d.time ≤ 1000000000 ∧ d.key.size ≤ 40 ∧ d.body.size ≤ 400 := by
 simp only [entryOk, partsB, Bool.and_eq_true, decide_eq_true_eq] at h
 obtain ⟨⟨h1, h2⟩, ⟨h3, h4⟩, h5⟩ := h
 have h6 := nameOk_size h1
 have h7 := inR_true h2
 have h8 := inR_true h3
 omega
theorem LeafText_any (d : EntryD) (w : World) (hd : d.Ok) : Calls Tryz.prog 161 #[.agg #[.string d.topic, .int .i64 d.index, .int .i64 d.time, .string d.key, .string d.body]] w fun e w' => e = .returned (.tuple #[.string (leafText d), .bool (entryOk d)]) ∧ Ext w w' := by
 cases b : entryOk d
 · have Ht := hU (show leafText d = ⟨#[]⟩ by simp [leafText, b])
   go_enter Tryz.func161, Tryz.ntmps161
   go_wp2_with fail
   have he := Ext.new (Below.refl w.heap.size w) (.cells #[.string d.topic, .int .i64 d.index, .int .i64 d.time, .string d.key, .string d.body] 46)
   refine (EntryOk_any d _ hd).mono ?_
   rintro e w1 ⟨rfl, h1⟩
   replace he := he.next h1
   go_wp2_with fail
   go_ret2
   exact ⟨by rw [Ht.out]; rfl, he⟩
 · have Ht := hU (show leafText d = leafT d by simp [leafText, b])
   obtain ⟨z1, z2, z3, z4, z5, z6, z7⟩ := entryOk_bounds b
   have y1 : (octB (d.topic.size : Int)).size ≤ 1 := Nat.le_refl _
   have y2 : (octB (d.key.size : Int)).size ≤ 1 := Nat.le_refl _
   have y3 : (octB (d.index / 256)).size ≤ 1 := Nat.le_refl _
   have y4 : (octB d.index).size ≤ 1 := Nat.le_refl _
   have y5 : (lowB d.time.toNat 4).size ≤ 4 := by rw [lowB_size]; exact Nat.le_refl _
   have y6 : (octB ((d.body.size : Int) / 256)).size ≤ 1 := Nat.le_refl _
   have y7 : (octB (d.body.size : Int)).size ≤ 1 := Nat.le_refl _
   have n1 : ¬ 9223372036854775807 < 1 + ((octB (d.topic.size : Int)).size + d.topic.size) := by omega
   have n2 : ¬ 9223372036854775807 < 1 + ((octB (d.topic.size : Int)).size + d.topic.size) + ((octB (d.index / 256)).size + (octB d.index).size) := by omega
   have n3 : ¬ 9223372036854775807 < 1 + ((octB (d.topic.size : Int)).size + d.topic.size) + ((octB (d.index / 256)).size + (octB d.index).size) + (lowB d.time.toNat 4).size := by omega
   have ht : IntKind.u32.wrap d.time = d.time := IntWalk.u32_in _ (by omega)
   go_enter Tryz.func161, Tryz.ntmps161
   go_wp2_with fail
   have hB := Blk.new w 46 #[.string d.topic, .int .i64 d.index, .int .i64 d.time, .string d.key, .string d.body]
   have he := Ext.new (Below.refl w.heap.size w) (.cells #[.string d.topic, .int .i64 d.index, .int .i64 d.time, .string d.key, .string d.body] 46)
   refine (EntryOk_any d _ hd).mono ?_
   rintro e w1 ⟨rfl, h1⟩
   replace he := he.next h1; replace hB := hB.ext h1; clear h1
   obtain ⟨g, hg⟩ : ∃ g, g = w.heap.size := ⟨_, rfl⟩
   rw [← hg] at hB
   rw [← hg]
   clear hg
   have c0 : w1.cell? ⟨g, 0, none⟩ = some (.string d.topic) := hB.cell 0
   have c1 : w1.cell? ⟨g, 1, none⟩ = some (.int .i64 d.index) := hB.cell 1
   have c2 : w1.cell? ⟨g, 2, none⟩ = some (.int .i64 d.time) := hB.cell 2
   go_wp2_with fail
   go_region_held3 (fun w' => w'.cell? ⟨g, 0, none⟩ = some (.string d.topic) ∧ w'.cell? ⟨g, 1, none⟩ = some (.int .i64 d.index) ∧ w'.cell? ⟨g, 2, none⟩ = some (.int .i64 d.time) ∧ Blk w' g 46 #[.string d.topic, .int .i64 d.index, .int .i64 d.time, .string d.key, .string d.body] ∧ Ext w w')
    (first
     | exact ⟨c0, c1, c2, hB.drew, he.drew⟩
     | (go_split_ands; refine ⟨?_, ?_, ?_, ?_, ?_⟩ <;> assumption)
     | (go_split_ands; have hB' := Blk.ext (by assumption) h1; exact ⟨hB'.cell 0, hB'.cell 1, hB'.cell 2, hB', Ext.next (by assumption) h1⟩))
    (first
     | (go_at_call 208; refine (shortS_any _ _ (by omega)).mono ?_; rintro e w' ⟨rfl, h1⟩)
     | (go_at_call 209; refine (pair_any _ _ (by omega) (by omega)).mono ?_; rintro e w' ⟨rfl, h1⟩)
     | (go_at_call 213; refine (WordTextI_any _ _ (by omega) (by omega)).mono ?_; rintro e w' ⟨rfl, h1⟩))
   clear c0 c1 c2 hB he ht n1 n2 n3
   rename_i hh
   obtain ⟨_, _, _, hB, he⟩ := hh
   have hs : (⟨#[69]⟩ ++ (octB d.topic.size ++ d.topic) ++ (octB (d.index / 256) ++ octB d.index) ++ lowB d.time.toNat 4 : ByteArray).size ≤ 30 := by
    simp only [ByteArray.size_append]
    show 1 + _ + _ + _ ≤ 30
    omega
   obtain ⟨H, hH⟩ : ∃ H, H = (⟨#[69]⟩ ++ (octB d.topic.size ++ d.topic) ++ (octB (d.index / 256) ++ octB d.index) ++ lowB d.time.toNat 4 : ByteArray) := ⟨_, rfl⟩
   rw [← hH] at hs ⊢
   have HH := hU hH
   clear hH
   have m1 : ¬ 9223372036854775807 < H.size + ((octB (d.key.size : Int)).size + d.key.size) := by omega
   have m2 : ¬ 9223372036854775807 < H.size + ((octB (d.key.size : Int)).size + d.key.size) + ((octB ((d.body.size : Int) / 256)).size + (octB (d.body.size : Int)).size) := by omega
   have m3 : ¬ 9223372036854775807 < H.size + ((octB (d.key.size : Int)).size + d.key.size) + ((octB ((d.body.size : Int) / 256)).size + (octB (d.body.size : Int)).size) + d.body.size := by omega
   have c3 : w'.cell? ⟨g, 3, none⟩ = some (.string d.key) := hB.cell 3
   have c4 : w'.cell? ⟨g, 4, none⟩ = some (.string d.body) := hB.cell 4
   go_wp2_with fail
   go_region_held3 (fun w' => w'.cell? ⟨g, 3, none⟩ = some (.string d.key) ∧ w'.cell? ⟨g, 4, none⟩ = some (.string d.body) ∧ Blk w' g 46 #[.string d.topic, .int .i64 d.index, .int .i64 d.time, .string d.key, .string d.body] ∧ Ext w w')
    (first
     | exact ⟨c3, c4, hB.drew, he.drew⟩
     | (go_split_ands; refine ⟨?_, ?_, ?_, ?_⟩ <;> assumption)
     | (go_split_ands; have hB' := Blk.ext (by assumption) h1; exact ⟨hB'.cell 3, hB'.cell 4, hB', Ext.next (by assumption) h1⟩))
    (first
     | (go_at_call 208; refine (shortS_any _ _ (by omega)).mono ?_; rintro e w' ⟨rfl, h1⟩)
     | (go_at_call 209; refine (pair_any _ _ (by omega) (by omega)).mono ?_; rintro e w' ⟨rfl, h1⟩))
   all_goals
    go_wp2_with fail
    go_ret2
    refine ⟨by rw [Ht.out, HH.out]; rfl, ?_⟩
    go_split_ands
    assumption
theorem specLeafText_any (d : EntryD) (w : World) (hd : d.Ok) : Calls Tryz.prog 123 #[.agg #[.string d.topic, .int .i64 d.index, .int .i64 d.time, .string d.key, .string d.body]] w fun e w' => e = .returned (.tuple #[.string (leafText d), .bool (entryOk d)]) ∧ Ext w w' := by
 cases b : entryOk d
 · have Ht := hU (show leafText d = ⟨#[]⟩ by simp [leafText, b])
   go_enter Tryz.func123, Tryz.ntmps123
   go_wp2_with fail
   have he := Ext.new (Below.refl w.heap.size w) (.cells #[.string d.topic, .int .i64 d.index, .int .i64 d.time, .string d.key, .string d.body] 46)
   refine (specEntryOk_any d _ hd).mono ?_
   rintro e w1 ⟨rfl, h1⟩
   replace he := he.next h1
   go_wp2_with fail
   go_ret2
   exact ⟨by rw [Ht.out]; rfl, he⟩
 · obtain ⟨z1, z2, z3, z4, z5, z6, z7⟩ := entryOk_bounds b
   have Ht : Hid (leafText d = ⟨#[69]⟩ ++ (lowB d.topic.size 1 ++ d.topic) ++ lowB d.index.toNat 2 ++ lowB d.time.toNat 4 ++ (lowB d.key.size 1 ++ d.key) ++ lowB d.body.size 2 ++ d.body) := by
    rw [lowB_one, lowB_one, lowB_two, lowB_two, Int.toNat_of_nonneg z2]
    exact hU (by simp [leafText, b, leafT])
   have y1 : (lowB d.topic.size 1).size ≤ 1 := by rw [lowB_size]; exact Nat.le_refl _
   have y2 : (lowB d.key.size 1).size ≤ 1 := by rw [lowB_size]; exact Nat.le_refl _
   have y3 : (lowB d.index.toNat 2).size ≤ 2 := by rw [lowB_size]; exact Nat.le_refl _
   have y4 : (lowB d.time.toNat 4).size ≤ 4 := by rw [lowB_size]; exact Nat.le_refl _
   have y5 : (lowB d.body.size 2).size ≤ 2 := by rw [lowB_size]; exact Nat.le_refl _
   have n1 : ¬ 9223372036854775807 < 1 + ((lowB d.topic.size 1).size + d.topic.size) := by omega
   have n2 : ¬ 9223372036854775807 < 1 + ((lowB d.topic.size 1).size + d.topic.size) + (lowB d.index.toNat 2).size := by omega
   have n3 : ¬ 9223372036854775807 < 1 + ((lowB d.topic.size 1).size + d.topic.size) + (lowB d.index.toNat 2).size + (lowB d.time.toNat 4).size := by omega
   have n4 : ¬ 9223372036854775807 < 1 + ((lowB d.topic.size 1).size + d.topic.size) + (lowB d.index.toNat 2).size + (lowB d.time.toNat 4).size + ((lowB d.key.size 1).size + d.key.size) := by omega
   have n5 : ¬ 9223372036854775807 < 1 + ((lowB d.topic.size 1).size + d.topic.size) + (lowB d.index.toNat 2).size + (lowB d.time.toNat 4).size + ((lowB d.key.size 1).size + d.key.size) + (lowB d.body.size 2).size := by omega
   have n6 : ¬ 9223372036854775807 < 1 + ((lowB d.topic.size 1).size + d.topic.size) + (lowB d.index.toNat 2).size + (lowB d.time.toNat 4).size + ((lowB d.key.size 1).size + d.key.size) + (lowB d.body.size 2).size + d.body.size := by omega
   go_enter Tryz.func123, Tryz.ntmps123
   go_wp2_with fail
   have hB := Blk.new w 46 #[.string d.topic, .int .i64 d.index, .int .i64 d.time, .string d.key, .string d.body]
   have he := Ext.new (Below.refl w.heap.size w) (.cells #[.string d.topic, .int .i64 d.index, .int .i64 d.time, .string d.key, .string d.body] 46)
   refine (specEntryOk_any d _ hd).mono ?_
   rintro e w1 ⟨rfl, h1⟩
   replace he := he.next h1; replace hB := hB.ext h1; clear h1
   obtain ⟨g, hg⟩ : ∃ g, g = w.heap.size := ⟨_, rfl⟩
   rw [← hg] at hB
   rw [← hg]
   clear hg
   have c0 : w1.cell? ⟨g, 0, none⟩ = some (.string d.topic) := hB.cell 0
   have c1 : w1.cell? ⟨g, 1, none⟩ = some (.int .i64 d.index) := hB.cell 1
   have c2 : w1.cell? ⟨g, 2, none⟩ = some (.int .i64 d.time) := hB.cell 2
   have c3 : w1.cell? ⟨g, 3, none⟩ = some (.string d.key) := hB.cell 3
   have c4 : w1.cell? ⟨g, 4, none⟩ = some (.string d.body) := hB.cell 4
   go_wp2_with fail
   go_region_held3 (fun w' => w'.cell? ⟨g, 0, none⟩ = some (.string d.topic) ∧ w'.cell? ⟨g, 1, none⟩ = some (.int .i64 d.index) ∧ w'.cell? ⟨g, 2, none⟩ = some (.int .i64 d.time) ∧ w'.cell? ⟨g, 3, none⟩ = some (.string d.key) ∧ w'.cell? ⟨g, 4, none⟩ = some (.string d.body) ∧ Blk w' g 46 #[.string d.topic, .int .i64 d.index, .int .i64 d.time, .string d.key, .string d.body] ∧ Ext w w')
    (first
     | exact ⟨c0, c1, c2, c3, c4, hB.drew, he.drew⟩
     | (go_split_ands; refine ⟨?_, ?_, ?_, ?_, ?_, ?_, ?_⟩ <;> assumption)
     | (go_split_ands; have hB' := Blk.ext (by assumption) h1; exact ⟨hB'.cell 0, hB'.cell 1, hB'.cell 2, hB'.cell 3, hB'.cell 4, hB', Ext.next (by assumption) h1⟩))
    (first
     | (go_at_call 184; refine (l03Short_any _ _ (by omega)).mono ?_; rintro e w' ⟨rfl, h1⟩)
     | (go_at_call_of 183 (Value.int .i64 d.index); refine (l03NumberI_any _ 2 _ (by omega) (by omega) (by decide)).mono ?_; rintro e w' ⟨rfl, h1⟩)
     | (go_at_call_of 183 (Value.int .i64 d.time); refine (l03NumberI_any _ 4 _ (by omega) (by omega) (by decide)).mono ?_; rintro e w' ⟨rfl, h1⟩)
     | (go_at_call_of 183 (Value.int .i64 (d.body.size : Int)); refine (l03Number_any _ 2 _ (by omega) (by decide)).mono ?_; rintro e w' ⟨rfl, h1⟩))
   all_goals
    go_wp2_with fail
    go_ret2
    refine ⟨by rw [Ht.out]; rfl, ?_⟩
    go_split_ands
    assumption
end Go.Proofs.YtlgdghpnfclgpaaGreat
