/-
  ShowWorld: plain, and both sides' walks. No condition.
-/
import Derived.Test.YtichegndafnjeaaDoorShowWd0
namespace Go.Proofs.YtichegndafnjeaaDoor
set_option linter.unusedSimpArgs false
open Go.RowKit
set_option linter.unusedVariables false

def HZ : Array Value := #[.int .i64 0, .int .i64 0, .string ⟨#[]⟩, .int .i64 0, .string ⟨#[]⟩]
set_option maxHeartbeats 1000000 in
theorem l12Last_any (bs : List Value) (A : Option Addr) (l : List HeadD) (c : Nat) (d : HeadD) (w : World) (hb : bs[3]? = some (.slice A l.length c)) (s : SlF AnyB HeadD.cells 5 w A l c) (hd : l[l.length - 1]? = some d) :
    Calls Tryd.prog 15 #[.agg bs.toArray] w fun e w' => e = .returned (.agg d.cells.toArray) ∧ Ext w w' := by
  have hlt : l.length - 1 < l.length := by
    rcases Nat.lt_or_ge (l.length - 1) l.length with h | h
    · exact h
    · rw [List.getElem?_eq_none h] at hd; cases hd
  obtain ⟨b, off, rfl, hbb, hc⟩ := s.reads.at_ (k := l.length - 1) hlt
  have hm := s.len
  have hs := s.cap
  have hle := s.le
  unfold maxLen at hm hs
  obtain ⟨k, hk⟩ : ∃ k, k = l.length - 1 := ⟨_, rfl⟩
  have hk1 : l.length = k + 1 := by omega
  rw [← hk] at hd hc
  have c0 := hc 0 _ (flat_at _ 5 HeadD.cells_length l k 0 d hd (by omega))
  have c1 := hc 1 _ (flat_at _ 5 HeadD.cells_length l k 1 d hd (by omega))
  have c2 := hc 2 _ (flat_at _ 5 HeadD.cells_length l k 2 d hd (by omega))
  have c3 := hc 3 _ (flat_at _ 5 HeadD.cells_length l k 3 d hd (by omega))
  have c4 := hc 4 _ (flat_at _ 5 HeadD.cells_length l k 4 d hd (by omega))
  rw [Nat.add_zero] at c0
  rw [hk1] at hb hle hm
  clear hc hd hk hk1 hlt s
  have K0 := Blk.new w 55 bs.toArray
  have e1 := Ext.new (Below.refl w.heap.size w) (.cells bs.toArray 55)
  have K1 := (K0.alloc (.cells HZ 51))
  have Z1 := Blk.new (w.alloc (.cells bs.toArray 55)) 51 HZ
  have e2 := Ext.new e1 (.cells HZ 51)
  have Q : ∀ {p : Addr}, p.block < w.heap.size → ((w.alloc (.cells bs.toArray 55)).alloc (.cells HZ 51)).cell? p = w.cell? p := fun h => e2.cell h
  replace c0 := (Q (p := ⟨b, off + k * 5, none⟩) hbb).trans c0
  replace c1 := (Q (p := ⟨b, off + k * 5 + 1, none⟩) hbb).trans c1
  replace c2 := (Q (p := ⟨b, off + k * 5 + 2, none⟩) hbb).trans c2
  replace c3 := (Q (p := ⟨b, off + k * 5 + 3, none⟩) hbb).trans c3
  replace c4 := (Q (p := ⟨b, off + k * 5 + 4, none⟩) hbb).trans c4
  have cb := (K1.cell 3).trans (show bs.toArray[3]? = _ by simpa using hb)
  clear K0 hb Q hbb K1
  have Zd := Lib.hid (Blk.new (w.alloc (.cells bs.toArray 55)) 51 d.cells.toArray)
  rw [show (w.alloc (.cells bs.toArray 55)).heap.size = w.heap.size + 1 from Array.size_push _] at Zd
  have e3 := Lib.hid (Ext.new e1 (.cells d.cells.toArray 51))
  have W0 : IntKind.i64.wrap (((k + 1 : Nat) : Int) - 1) = (k : Int) := by rw [IntWalk.i64_in _ (by omega)]; omega
  clear Z1 e1 e2
  simp only [HZ] at cb c0 c1 c2 c3 c4
  go_enter Tryd.func15, Tryd.ntmps15
  go_wp2_with fail
  exact ret_row rfl rfl Zd.out Tryd.underlying51 rfl (by kernel_rfl) rfl ⟨rfl, e3.out⟩
-- WALKS (gen_showworld.py)
set_option maxHeartbeats 2000000 in
set_option maxRecDepth 100000 in
theorem specShowWorld_core (cs : List Value) (A0 A1 A2 A3 : Option Addr) (c0 c1 c2 c3 n0 n1 n2 n3 : Nat) (l : List HeadD) (w : World) (hl2 : l.length = n2) (h1 : cs[1]? = some (.slice A0 n0 c0)) (h2 : cs[2]? = some (.slice A1 n1 c1)) (h3 : cs[3]? = some (.slice A2 n2 c2)) (h15 : cs[15]? = some (.slice A3 n3 c3)) (hl : cs.length = 17)
    (s : SlF AnyB HeadD.cells 5 w A2 l c2) (m0 : n0 ≤ maxLen) (m1 : n1 ≤ maxLen) (m3 : n3 ≤ maxLen) (hok : ∀ x ∈ l, x.root.size ≤ maxLen) :
    Calls Tryd.prog 5 #[.agg cs.toArray] w fun e w' => e = .returned (.string (worldLine n0 n1 n2 n3 (rootWord l))) ∧ Ext w w' := by
  have m2 : n2 ≤ maxLen := by rw [← hl2]; exact s.len
  have sr := s
  unfold maxLen at m0 m1 m2 m3 hok
  have HD0 := Lib.hid (decT_size (n0 : Int) (by omega) (by omega))
  have HD1 := Lib.hid (decT_size (n1 : Int) (by omega) (by omega))
  have HD2 := Lib.hid (decT_size (n2 : Int) (by omega) (by omega))
  have HD3 := Lib.hid (decT_size (n3 : Int) (by omega) (by omega))
  have HR := Lib.hid (rootWord_size l)
  obtain ⟨rr, hrr⟩ : ∃ rr, rr = rootWord l := ⟨_, rfl⟩
  rw [← hrr] at HR
  rw [← hrr]
  have z1 : ¬ 9223372036854775807 < 8 + (decT (n0 : Int)).size := by have := HD0.out; have := HD1.out; have := HD2.out; have := HD3.out; have := HR.out; omega
  have y1 : ¬ 9223372036854775807 < ((⟨#[101, 110, 116, 114, 105, 101, 115, 32]⟩ : ByteArray)).size + (decT (n0 : Int)).size := by exact z1
  have z2 : ¬ 9223372036854775807 < 8 + (decT (n0 : Int)).size + 10 := by have := HD0.out; have := HD1.out; have := HD2.out; have := HD3.out; have := HR.out; omega
  have y2 : ¬ 9223372036854775807 < ((⟨#[101, 110, 116, 114, 105, 101, 115, 32]⟩ : ByteArray) ++ (decT (n0 : Int))).size + (⟨#[32, 114, 101, 99, 101, 105, 112, 116, 115, 32]⟩ : ByteArray).size := by rw [ByteArray.size_append]; exact z2
  have x2 : ¬ 9223372036854775807 < ((⟨#[101, 110, 116, 114, 105, 101, 115, 32]⟩ : ByteArray) ++ (decT (n0 : Int))).size + 10 := y2
  have z3 : ¬ 9223372036854775807 < 8 + (decT (n0 : Int)).size + 10 + (decT (n1 : Int)).size := by have := HD0.out; have := HD1.out; have := HD2.out; have := HD3.out; have := HR.out; omega
  have y3 : ¬ 9223372036854775807 < ((⟨#[101, 110, 116, 114, 105, 101, 115, 32]⟩ : ByteArray) ++ (decT (n0 : Int)) ++ (⟨#[32, 114, 101, 99, 101, 105, 112, 116, 115, 32]⟩ : ByteArray)).size + (decT (n1 : Int)).size := by rw [ByteArray.size_append, ByteArray.size_append]; exact z3
  have z4 : ¬ 9223372036854775807 < 8 + (decT (n0 : Int)).size + 10 + (decT (n1 : Int)).size + 7 := by have := HD0.out; have := HD1.out; have := HD2.out; have := HD3.out; have := HR.out; omega
  have y4 : ¬ 9223372036854775807 < ((⟨#[101, 110, 116, 114, 105, 101, 115, 32]⟩ : ByteArray) ++ (decT (n0 : Int)) ++ (⟨#[32, 114, 101, 99, 101, 105, 112, 116, 115, 32]⟩ : ByteArray) ++ (decT (n1 : Int))).size + (⟨#[32, 104, 101, 97, 100, 115, 32]⟩ : ByteArray).size := by rw [ByteArray.size_append, ByteArray.size_append, ByteArray.size_append]; exact z4
  have x4 : ¬ 9223372036854775807 < ((⟨#[101, 110, 116, 114, 105, 101, 115, 32]⟩ : ByteArray) ++ (decT (n0 : Int)) ++ (⟨#[32, 114, 101, 99, 101, 105, 112, 116, 115, 32]⟩ : ByteArray) ++ (decT (n1 : Int))).size + 7 := y4
  have z5 : ¬ 9223372036854775807 < 8 + (decT (n0 : Int)).size + 10 + (decT (n1 : Int)).size + 7 + (decT (n2 : Int)).size := by have := HD0.out; have := HD1.out; have := HD2.out; have := HD3.out; have := HR.out; omega
  have y5 : ¬ 9223372036854775807 < ((⟨#[101, 110, 116, 114, 105, 101, 115, 32]⟩ : ByteArray) ++ (decT (n0 : Int)) ++ (⟨#[32, 114, 101, 99, 101, 105, 112, 116, 115, 32]⟩ : ByteArray) ++ (decT (n1 : Int)) ++ (⟨#[32, 104, 101, 97, 100, 115, 32]⟩ : ByteArray)).size + (decT (n2 : Int)).size := by rw [ByteArray.size_append, ByteArray.size_append, ByteArray.size_append, ByteArray.size_append]; exact z5
  have z6 : ¬ 9223372036854775807 < 8 + (decT (n0 : Int)).size + 10 + (decT (n1 : Int)).size + 7 + (decT (n2 : Int)).size + 7 := by have := HD0.out; have := HD1.out; have := HD2.out; have := HD3.out; have := HR.out; omega
  have y6 : ¬ 9223372036854775807 < ((⟨#[101, 110, 116, 114, 105, 101, 115, 32]⟩ : ByteArray) ++ (decT (n0 : Int)) ++ (⟨#[32, 114, 101, 99, 101, 105, 112, 116, 115, 32]⟩ : ByteArray) ++ (decT (n1 : Int)) ++ (⟨#[32, 104, 101, 97, 100, 115, 32]⟩ : ByteArray) ++ (decT (n2 : Int))).size + (⟨#[32, 103, 105, 118, 101, 110, 32]⟩ : ByteArray).size := by rw [ByteArray.size_append, ByteArray.size_append, ByteArray.size_append, ByteArray.size_append, ByteArray.size_append]; exact z6
  have x6 : ¬ 9223372036854775807 < ((⟨#[101, 110, 116, 114, 105, 101, 115, 32]⟩ : ByteArray) ++ (decT (n0 : Int)) ++ (⟨#[32, 114, 101, 99, 101, 105, 112, 116, 115, 32]⟩ : ByteArray) ++ (decT (n1 : Int)) ++ (⟨#[32, 104, 101, 97, 100, 115, 32]⟩ : ByteArray) ++ (decT (n2 : Int))).size + 7 := y6
  have z7 : ¬ 9223372036854775807 < 8 + (decT (n0 : Int)).size + 10 + (decT (n1 : Int)).size + 7 + (decT (n2 : Int)).size + 7 + (decT (n3 : Int)).size := by have := HD0.out; have := HD1.out; have := HD2.out; have := HD3.out; have := HR.out; omega
  have y7 : ¬ 9223372036854775807 < ((⟨#[101, 110, 116, 114, 105, 101, 115, 32]⟩ : ByteArray) ++ (decT (n0 : Int)) ++ (⟨#[32, 114, 101, 99, 101, 105, 112, 116, 115, 32]⟩ : ByteArray) ++ (decT (n1 : Int)) ++ (⟨#[32, 104, 101, 97, 100, 115, 32]⟩ : ByteArray) ++ (decT (n2 : Int)) ++ (⟨#[32, 103, 105, 118, 101, 110, 32]⟩ : ByteArray)).size + (decT (n3 : Int)).size := by rw [ByteArray.size_append, ByteArray.size_append, ByteArray.size_append, ByteArray.size_append, ByteArray.size_append, ByteArray.size_append]; exact z7
  have z8 : ¬ 9223372036854775807 < 8 + (decT (n0 : Int)).size + 10 + (decT (n1 : Int)).size + 7 + (decT (n2 : Int)).size + 7 + (decT (n3 : Int)).size + 6 := by have := HD0.out; have := HD1.out; have := HD2.out; have := HD3.out; have := HR.out; omega
  have y8 : ¬ 9223372036854775807 < ((⟨#[101, 110, 116, 114, 105, 101, 115, 32]⟩ : ByteArray) ++ (decT (n0 : Int)) ++ (⟨#[32, 114, 101, 99, 101, 105, 112, 116, 115, 32]⟩ : ByteArray) ++ (decT (n1 : Int)) ++ (⟨#[32, 104, 101, 97, 100, 115, 32]⟩ : ByteArray) ++ (decT (n2 : Int)) ++ (⟨#[32, 103, 105, 118, 101, 110, 32]⟩ : ByteArray) ++ (decT (n3 : Int))).size + (⟨#[32, 114, 111, 111, 116, 32]⟩ : ByteArray).size := by rw [ByteArray.size_append, ByteArray.size_append, ByteArray.size_append, ByteArray.size_append, ByteArray.size_append, ByteArray.size_append, ByteArray.size_append]; exact z8
  have x8 : ¬ 9223372036854775807 < ((⟨#[101, 110, 116, 114, 105, 101, 115, 32]⟩ : ByteArray) ++ (decT (n0 : Int)) ++ (⟨#[32, 114, 101, 99, 101, 105, 112, 116, 115, 32]⟩ : ByteArray) ++ (decT (n1 : Int)) ++ (⟨#[32, 104, 101, 97, 100, 115, 32]⟩ : ByteArray) ++ (decT (n2 : Int)) ++ (⟨#[32, 103, 105, 118, 101, 110, 32]⟩ : ByteArray) ++ (decT (n3 : Int))).size + 6 := y8
  have z9 : ¬ 9223372036854775807 < 8 + (decT (n0 : Int)).size + 10 + (decT (n1 : Int)).size + 7 + (decT (n2 : Int)).size + 7 + (decT (n3 : Int)).size + 6 + rr.size := by have := HD0.out; have := HD1.out; have := HD2.out; have := HD3.out; have := HR.out; omega
  have y9 : ¬ 9223372036854775807 < ((⟨#[101, 110, 116, 114, 105, 101, 115, 32]⟩ : ByteArray) ++ (decT (n0 : Int)) ++ (⟨#[32, 114, 101, 99, 101, 105, 112, 116, 115, 32]⟩ : ByteArray) ++ (decT (n1 : Int)) ++ (⟨#[32, 104, 101, 97, 100, 115, 32]⟩ : ByteArray) ++ (decT (n2 : Int)) ++ (⟨#[32, 103, 105, 118, 101, 110, 32]⟩ : ByteArray) ++ (decT (n3 : Int)) ++ (⟨#[32, 114, 111, 111, 116, 32]⟩ : ByteArray)).size + rr.size := by rw [ByteArray.size_append, ByteArray.size_append, ByteArray.size_append, ByteArray.size_append, ByteArray.size_append, ByteArray.size_append, ByteArray.size_append, ByteArray.size_append]; exact z9
  have z10 : ¬ 9223372036854775807 < 8 + (decT (n0 : Int)).size + 10 + (decT (n1 : Int)).size + 7 + (decT (n2 : Int)).size + 7 + (decT (n3 : Int)).size + 6 + rr.size + 1 := by have := HD0.out; have := HD1.out; have := HD2.out; have := HD3.out; have := HR.out; omega
  have y10 : ¬ 9223372036854775807 < ((⟨#[101, 110, 116, 114, 105, 101, 115, 32]⟩ : ByteArray) ++ (decT (n0 : Int)) ++ (⟨#[32, 114, 101, 99, 101, 105, 112, 116, 115, 32]⟩ : ByteArray) ++ (decT (n1 : Int)) ++ (⟨#[32, 104, 101, 97, 100, 115, 32]⟩ : ByteArray) ++ (decT (n2 : Int)) ++ (⟨#[32, 103, 105, 118, 101, 110, 32]⟩ : ByteArray) ++ (decT (n3 : Int)) ++ (⟨#[32, 114, 111, 111, 116, 32]⟩ : ByteArray) ++ rr).size + (⟨#[10]⟩ : ByteArray).size := by rw [ByteArray.size_append, ByteArray.size_append, ByteArray.size_append, ByteArray.size_append, ByteArray.size_append, ByteArray.size_append, ByteArray.size_append, ByteArray.size_append, ByteArray.size_append]; exact z10
  have x10 : ¬ 9223372036854775807 < ((⟨#[101, 110, 116, 114, 105, 101, 115, 32]⟩ : ByteArray) ++ (decT (n0 : Int)) ++ (⟨#[32, 114, 101, 99, 101, 105, 112, 116, 115, 32]⟩ : ByteArray) ++ (decT (n1 : Int)) ++ (⟨#[32, 104, 101, 97, 100, 115, 32]⟩ : ByteArray) ++ (decT (n2 : Int)) ++ (⟨#[32, 103, 105, 118, 101, 110, 32]⟩ : ByteArray) ++ (decT (n3 : Int)) ++ (⟨#[32, 114, 111, 111, 116, 32]⟩ : ByteArray) ++ rr).size + 1 := y10
  have K := Lib.hid (Blk.new w 61 cs.toArray)
  have he := Ext.new (Below.refl w.heap.size w) (.cells cs.toArray 61)
  have r1 := (K.out.cell 1).trans (show cs.toArray[1]? = _ by simpa using h1)
  have r2 := (K.out.cell 2).trans (show cs.toArray[2]? = _ by simpa using h2)
  have r3 := (K.out.cell 3).trans (show cs.toArray[3]? = _ by simpa using h3)
  have r15 := (K.out.cell 15).trans (show cs.toArray[15]? = _ by simpa using h15)
  have glt := K.out.lt
  have RG := Lib.hid (show (w.alloc (.cells cs.toArray 61)).rangeAt w.heap.size 0 (cs.take 13) from fun j v hv => (Blk.range K.out) j v (by
    rcases Nat.lt_or_ge j 13 with hj | hj
    · rw [List.getElem?_take_of_lt hj] at hv; exact hv
    · rw [List.getElem?_eq_none (by simp; omega)] at hv; cases hv))
  have HL : Hid ((cs.take 13).length = 13) := Lib.hid (by simp [hl])
  have h33 : (cs.take 13)[3]? = some (.slice A2 l.length c2) := by rw [List.getElem?_take_of_lt (by decide), h3, hl2]
  generalize cs.take 13 = bs at RG HL h33
  have LK := Lib.hid (fun d W e => l12Last_any bs A2 l c2 d W h33 (sr.ext e))
  go_enter Tryd.func5, Tryd.ntmps5
  by_cases hz : n2 = 0
  · have E : Hid (rr = ⟨#[45]⟩) := Lib.hid (by rw [hrr]; unfold rootWord; rw [List.getElem?_eq_none (by omega)])
    have q0 : decide ((0 : Int) < (n2 : Int)) = false := by simp [hz]
    have q1 : decide (0 < n2) = false := by simp [hz]
    clear hrr hz hl2
    have R1 := r1; have R2 := r2; have R3 := r3; have R15 := r15; have GL := glt
    have HE := Lib.hid he
    have DC := Lib.hid (fun n W a b => specDecimal_any n W a b)
    go_upto_region 6 with fail
    rw [← E.out]
    obtain ⟨g, hg⟩ : ∃ g, g = w.heap.size := ⟨_, rfl⟩
    rw [← hg] at R1 R2 R3 R15 GL
    rw [← hg]
    clear hg
    have P0 := Lib.hid HE.out
    generalize w.alloc _ = W at *
    go_region_held3 (fun w' => w'.cell? ⟨g, 1, none⟩ = some (.slice A0 n0 c0) ∧ w'.cell? ⟨g, 2, none⟩ = some (.slice A1 n1 c1) ∧ w'.cell? ⟨g, 3, none⟩ = some (.slice A2 n2 c2) ∧ w'.cell? ⟨g, 15, none⟩ = some (.slice A3 n3 c3) ∧ g < w'.heap.size ∧ Ext w w')
      (first | exact ⟨R1, R2, R3, R15, GL, HE.out.drew⟩ | (go_split_ands; refine ⟨?_, ?_, ?_, ?_, ?_, ?_⟩ <;> assumption) | (go_split_ands; exact ⟨(Below.cell (p := ⟨g, 1, none⟩) hh (by assumption)).trans (by assumption), (Below.cell (p := ⟨g, 2, none⟩) hh (by assumption)).trans (by assumption), (Below.cell (p := ⟨g, 3, none⟩) hh (by assumption)).trans (by assumption), (Below.cell (p := ⟨g, 15, none⟩) hh (by assumption)).trans (by assumption), Nat.lt_of_lt_of_le (by assumption) hh.size, Ext.next (by assumption) hh⟩))
      (first | (go_at_call 16; refine (DC.out _ _ (by omega) (by omega)).mono ?_; rintro e w' ⟨rfl, hh⟩))
    all_goals
      go_split_ands
      have he2 : Ext w w' := by assumption
      go_wp2_with fail
      go_ret
      exact ⟨rfl, he2⟩
  · obtain ⟨dh, hdh⟩ : ∃ dh, l[l.length - 1]? = some dh := ⟨_, List.getElem?_eq_getElem (by omega)⟩
    have hro := hok dh (List.mem_of_getElem? hdh)
    have HXc : Hid (∀ W, Calls Tryd.prog 14 #[.string dh.root] W fun e w' => e = .returned (.tuple #[.string (hexOr dh.root), .bool (decide (dh.root.size ≤ 4000))]) ∧ Ext W w') := Lib.hid (fun W => specHex_any dh.root W (by unfold maxLen; exact hro))
    have hrr2 : rr = if (decide (dh.root.size ≤ 4000) && !(hexOr dh.root).toList.isEmpty) = true then hexOr dh.root else ⟨#[45]⟩ := by rw [hrr]; unfold rootWord; rw [hdh]
    have L0 : Hid (∀ W, Ext w W → Calls Tryd.prog 15 #[.agg bs.toArray] W fun e w' => e = .returned (.agg #[.int .i64 dh.number, .int .i64 dh.size, .string dh.root, .int .i64 dh.taken, .string dh.takenRoot]) ∧ Ext W w') := Lib.hid (fun W e => LK.out dh W e hdh)
    have q0 : decide ((0 : Int) < (n2 : Int)) = true := by simp; omega
    have q1 : decide (0 < n2) = true := by simp; omega
    have DC := Lib.hid (fun n W a b => specDecimal_any n W a b)
    clear hrr hz hl2 hdh hro hok sr LK s
    generalize hexOr dh.root = x at HXc hrr2
    generalize decide (dh.root.size ≤ 4000) = bb at HXc hrr2
    have HRR := Lib.hid hrr2
    clear hrr2
    go_wp2_with (refine wpList_load_mid rfl 55 _ rfl w.heap.size 0 rfl bs _ RG.out Tryd.underlying55 rfl (by rw [HL.out]; kernel_rfl) ?_)
    refine (L0.out _ he).mono ?_
    rintro e w1 ⟨rfl, hh⟩
    have R1 := (Below.cell (p := ⟨w.heap.size, 1, none⟩) hh glt).trans r1
    have R2 := (Below.cell (p := ⟨w.heap.size, 2, none⟩) hh glt).trans r2
    have R3 := (Below.cell (p := ⟨w.heap.size, 3, none⟩) hh glt).trans r3
    have R15 := (Below.cell (p := ⟨w.heap.size, 15, none⟩) hh glt).trans r15
    have GL := Nat.lt_of_lt_of_le glt hh.size
    replace he := he.next hh
    clear hh r1 r2 r3 r15 L0 RG HL K
    have FD : ∀ W : World, (Instr.field 51 (.agg #[.int .i64 dh.number, .int .i64 dh.size, .string dh.root, .int .i64 dh.taken, .string dh.takenRoot]) 2).run Tryd.prog W = .ok (.string dh.root) W := fun _ => by kernel_rfl
    go_wp2_with fail
    refine (HXc.out _).mono ?_
    rintro e w2 ⟨rfl, hh⟩
    replace R1 := (Below.cell (p := ⟨w.heap.size, 1, none⟩) hh GL).trans R1
    replace R2 := (Below.cell (p := ⟨w.heap.size, 2, none⟩) hh GL).trans R2
    replace R3 := (Below.cell (p := ⟨w.heap.size, 3, none⟩) hh GL).trans R3
    replace R15 := (Below.cell (p := ⟨w.heap.size, 15, none⟩) hh GL).trans R15
    replace GL := Nat.lt_of_lt_of_le GL hh.size
    have HE := Lib.hid (he.next hh)
    clear hh he HXc
    cases bb
    · have E : Hid (rr = ⟨#[45]⟩) := Lib.hid (by rw [HRR.out]; rfl)
      go_upto_region 6 with fail
      rw [← E.out]
      obtain ⟨g, hg⟩ : ∃ g, g = w.heap.size := ⟨_, rfl⟩
      rw [← hg] at R1 R2 R3 R15 GL
      rw [← hg]
      clear hg
      have P0 := Lib.hid HE.out
      clear HRR
      go_region_held3 (fun w' => w'.cell? ⟨g, 1, none⟩ = some (.slice A0 n0 c0) ∧ w'.cell? ⟨g, 2, none⟩ = some (.slice A1 n1 c1) ∧ w'.cell? ⟨g, 3, none⟩ = some (.slice A2 n2 c2) ∧ w'.cell? ⟨g, 15, none⟩ = some (.slice A3 n3 c3) ∧ g < w'.heap.size ∧ Ext w w')
        (first | exact ⟨R1, R2, R3, R15, GL, HE.out.drew⟩ | (go_split_ands; refine ⟨?_, ?_, ?_, ?_, ?_, ?_⟩ <;> assumption) | (go_split_ands; exact ⟨(Below.cell (p := ⟨g, 1, none⟩) hh (by assumption)).trans (by assumption), (Below.cell (p := ⟨g, 2, none⟩) hh (by assumption)).trans (by assumption), (Below.cell (p := ⟨g, 3, none⟩) hh (by assumption)).trans (by assumption), (Below.cell (p := ⟨g, 15, none⟩) hh (by assumption)).trans (by assumption), Nat.lt_of_lt_of_le (by assumption) hh.size, Ext.next (by assumption) hh⟩))
        (first | (go_at_call 16; refine (DC.out _ _ (by omega) (by omega)).mono ?_; rintro e w' ⟨rfl, hh⟩))
      all_goals
        go_split_ands
        have he2 : Ext w w' := by assumption
        go_wp2_with fail
        go_ret
        exact ⟨rfl, he2⟩
    cases q : x.toList.isEmpty
    · have E : Hid (rr = x) := Lib.hid (by rw [HRR.out, q]; rfl)
      go_upto_region 6 with fail
      rw [← E.out]
      obtain ⟨g, hg⟩ : ∃ g, g = w.heap.size := ⟨_, rfl⟩
      rw [← hg] at R1 R2 R3 R15 GL
      rw [← hg]
      clear hg
      have P0 := Lib.hid HE.out
      clear HRR
      go_region_held3 (fun w' => w'.cell? ⟨g, 1, none⟩ = some (.slice A0 n0 c0) ∧ w'.cell? ⟨g, 2, none⟩ = some (.slice A1 n1 c1) ∧ w'.cell? ⟨g, 3, none⟩ = some (.slice A2 n2 c2) ∧ w'.cell? ⟨g, 15, none⟩ = some (.slice A3 n3 c3) ∧ g < w'.heap.size ∧ Ext w w')
        (first | exact ⟨R1, R2, R3, R15, GL, HE.out.drew⟩ | (go_split_ands; refine ⟨?_, ?_, ?_, ?_, ?_, ?_⟩ <;> assumption) | (go_split_ands; exact ⟨(Below.cell (p := ⟨g, 1, none⟩) hh (by assumption)).trans (by assumption), (Below.cell (p := ⟨g, 2, none⟩) hh (by assumption)).trans (by assumption), (Below.cell (p := ⟨g, 3, none⟩) hh (by assumption)).trans (by assumption), (Below.cell (p := ⟨g, 15, none⟩) hh (by assumption)).trans (by assumption), Nat.lt_of_lt_of_le (by assumption) hh.size, Ext.next (by assumption) hh⟩))
        (first | (go_at_call 16; refine (DC.out _ _ (by omega) (by omega)).mono ?_; rintro e w' ⟨rfl, hh⟩))
      all_goals
        go_split_ands
        have he2 : Ext w w' := by assumption
        go_wp2_with fail
        go_ret
        exact ⟨rfl, he2⟩
    · have E : Hid (rr = ⟨#[45]⟩) := Lib.hid (by rw [HRR.out, q]; rfl)
      go_upto_region 6 with fail
      rw [← E.out]
      obtain ⟨g, hg⟩ : ∃ g, g = w.heap.size := ⟨_, rfl⟩
      rw [← hg] at R1 R2 R3 R15 GL
      rw [← hg]
      clear hg
      have P0 := Lib.hid HE.out
      clear HRR
      go_region_held3 (fun w' => w'.cell? ⟨g, 1, none⟩ = some (.slice A0 n0 c0) ∧ w'.cell? ⟨g, 2, none⟩ = some (.slice A1 n1 c1) ∧ w'.cell? ⟨g, 3, none⟩ = some (.slice A2 n2 c2) ∧ w'.cell? ⟨g, 15, none⟩ = some (.slice A3 n3 c3) ∧ g < w'.heap.size ∧ Ext w w')
        (first | exact ⟨R1, R2, R3, R15, GL, HE.out.drew⟩ | (go_split_ands; refine ⟨?_, ?_, ?_, ?_, ?_, ?_⟩ <;> assumption) | (go_split_ands; exact ⟨(Below.cell (p := ⟨g, 1, none⟩) hh (by assumption)).trans (by assumption), (Below.cell (p := ⟨g, 2, none⟩) hh (by assumption)).trans (by assumption), (Below.cell (p := ⟨g, 3, none⟩) hh (by assumption)).trans (by assumption), (Below.cell (p := ⟨g, 15, none⟩) hh (by assumption)).trans (by assumption), Nat.lt_of_lt_of_le (by assumption) hh.size, Ext.next (by assumption) hh⟩))
        (first | (go_at_call 16; refine (DC.out _ _ (by omega) (by omega)).mono ?_; rintro e w' ⟨rfl, hh⟩))
      all_goals
        go_split_ands
        have he2 : Ext w w' := by assumption
        go_wp2_with fail
        go_ret
        exact ⟨rfl, he2⟩
end Go.Proofs.YtichegndafnjeaaDoor
