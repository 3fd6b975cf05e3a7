/-
  Decimal: plain, and the reference's walk. No condition.
-/
import Derived.Test.YtichegndafnjeaaDoorMem
import Derived.Lib.ItoaNum
import Derived.Laws.IdiomStrings
namespace Go.Proofs.YtichegndafnjeaaDoor
set_option linter.unusedSimpArgs false
open Go.RowKit
set_option linter.unusedVariables false

def ofNats (ns : List Int) : ByteArray := ⟨(ns.map fun x => UInt8.ofNat x.toNat).toArray⟩
theorem conv_nats (ns : List Int) (h : ∀ x ∈ ns, 0 ≤ x ∧ x < 256) (w : World) :
    (convert 103 9 (.slice (some ⟨w.heap.size, 0, none⟩) ns.length ns.length)).run Tryd.prog (w.alloc (.cells (ns.map (Value.int .u8)).toArray 5)) =
      .ok (.string (ofNats ns)) (w.alloc (.cells (ns.map (Value.int .u8)).toArray 5)) := by
  have hb := Blk.new w 5 (ns.map (Value.int .u8)).toArray
  have h0 := run_convert_bytes_back (P := Tryd.prog) (w.alloc (.cells (ns.map (Value.int .u8)).toArray 5)) 103 9 5 ⟨w.heap.size, 0, none⟩ ns.length (ns.map fun x => UInt8.ofNat x.toNat)
    Tryd.underlying103 Tryd.underlying5 Tryd.underlying9 (fun j hj => by
      rw [add_mk, Nat.zero_add, hb.cell]
      have hj' : j < ns.length := by simpa using hj
      obtain ⟨h1, h2⟩ := h ns[j] (List.getElem_mem hj')
      simp only [List.getElem?_toArray, List.getElem?_map, List.getElem?_eq_getElem hj', Option.map_some, List.getElem_map, Option.some.injEq, Value.int.injEq, true_and]
      rw [UInt8.toNat_ofNat_of_lt' (by show ns[j].toNat < 256; omega)]
      omega)
  simp only [List.length_map] at h0
  exact h0
theorem dec_str {a b : ByteArray} (h : a = b) : Ending.returned (.string a) = .returned (.string b) := by rw [h]
/-- The text of a number. -/
def decT (n : Int) : ByteArray := ⟨(Lib.itoa n).toArray⟩
/-- The figures of u ahead of s. -/
def digs : Nat → Nat → ByteArray → ByteArray
  | 0, _, s => s
  | f + 1, u, s => if u = 0 then s else digs f (u / 10) (ofNats [48 + ((u % 10 : Nat) : Int)] ++ s)
theorem ofNats_fig (k : Nat) (h : k < 10) : ofNats [48 + (k : Int)] = ⟨#[UInt8.ofNat (48 + k)]⟩ := by
  simp only [ofNats, List.map_cons, List.map_nil]
  rw [show (48 + (k : Int)).toNat = 48 + k by omega]
theorem digs_all : ∀ (f u : Nat) (s : ByteArray), u ≤ f → 0 < u → digs f u s = ⟨(Lib.decDigits u).toArray⟩ ++ s
  | 0, u, s, h, h0 => by omega
  | f + 1, u, s, h, h0 => by
    rw [digs, if_neg (by omega), ofNats_fig _ (by omega), Lib.decDigits]
    by_cases hu : u < 10
    · rw [dif_pos hu]
      have e : u / 10 = 0 := by omega
      have e2 : u % 10 = u := by omega
      rw [e, e2]
      cases f <;> rfl
    · rw [dif_neg hu, digs_all f (u / 10) _ (by omega) (by omega), ← ByteArray.append_assoc]
      congr 1
theorem decT_zero : decT 0 = ⟨#[48]⟩ := by
  rw [decT, Lib.itoa, if_neg (by decide), Lib.decDigits, dif_pos (by decide)]
  rfl
theorem decT_pos {u : Nat} (h : 0 < u) : decT (u : Int) = digs u u ⟨#[]⟩ := by
  rw [digs_all u u _ (Nat.le_refl _) h, decT, Lib.itoa, if_neg (by omega), Int.toNat_natCast]
  exact ByteArray.append_empty.symm
theorem decT_neg {u : Nat} (h : 0 < u) : decT (-(u : Int)) = ⟨#[45]⟩ ++ digs u u ⟨#[]⟩ := by
  rw [digs_all u u _ (Nat.le_refl _) h, decT, Lib.itoa, if_pos (by omega), show (-(u : Int)).natAbs = u by omega, show ∀ X : ByteArray, X ++ (⟨#[]⟩ : ByteArray) = X from fun X => ByteArray.append_empty]
  apply ByteArray.ext
  rw [← Array.toList_inj]
  simp [ByteArray.data_append]
theorem decDigits_len : ∀ (k u : Nat), u < 10 ^ (k + 1) → (Lib.decDigits u).length ≤ k + 1
  | 0, u, h => by rw [Lib.decDigits, dif_pos (by omega)]; simp
  | k + 1, u, h => by
    rw [Lib.decDigits]
    split
    · simp
    · have := decDigits_len k (u / 10) (by rw [Nat.pow_succ] at h; omega)
      rw [List.length_append, List.length_singleton]; omega
theorem decT_size (n : Int) (h0 : -9223372036854775808 ≤ n) (h1 : n ≤ 9223372036854775807) : (decT n).size ≤ 20 := by
  have e : (decT n).size = (Lib.itoa n).length := by simp [decT, ByteArray.size]
  rw [e, Lib.itoa]
  split
  · have := decDigits_len 18 n.natAbs (by omega)
    simp; omega
  · have := decDigits_len 18 n.toNat (by omega)
    omega
theorem l01Figure_any (n : Int) (w : World) (h0 : 0 ≤ n) (h1 : n < 10) : Calls Tryd.prog 37 #[.int .i64 n] w fun e w' => e = .returned (.int .u8 (48 + n)) ∧ w = w' := by
  go_enter Tryd.func37, Tryd.ntmps37
  go_wp2_with fail
  go_ret
  exact ⟨rfl, rfl⟩
set_option maxHeartbeats 2000000 in
set_option maxRecDepth 100000 in
theorem specDecimal_any (n : Int) (w : World) (h0 : -9223372036854775808 ≤ n) (h1 : n ≤ 9223372036854775807) : Calls Tryd.prog 16 #[.int .i64 n] w fun e w' => e = .returned (.string (decT n)) ∧ Ext w w' := by
  by_cases hz : n = 0
  · subst hz
    rw [decT_zero]
    go_enter Tryd.func16, Tryd.ntmps16
    go_wp2_with fail
    go_ret
    exact ⟨rfl, Below.refl _ _⟩
  have ez : (n == 0) = false := by simpa using hz
  have ez2 : (n != 0) = true := by rw [bne, ez]; rfl
  by_cases hneg : n < 0
  case neg =>
    have hd : decide (n < 0) = false := by rw [decide_eq_false_iff_not]; exact hneg
    obtain ⟨U, rfl⟩ : ∃ k : Nat, n = (k : Int) := ⟨n.toNat, by omega⟩
    have hU : 0 < U := by omega
    obtain ⟨fin, hfin⟩ : ∃ fin, fin = decT (U : Int) := ⟨_, rfl⟩
    have H0 := Lib.hid (show digs U U ⟨#[]⟩ = fin by rw [hfin, decT_pos hU])
    have H1 := Lib.hid (show U < 10 ^ (20 - (⟨#[]⟩ : ByteArray).size) by show U < 10 ^ 20; omega)
    rw [← hfin]
    clear hfin
    go_enter Tryd.func16, Tryd.ntmps16
    go_wp2_with fail
    go_loopw [0, 4, 5] (fun m sv _ wr => ∃ (f u : Nat) (s : ByteArray), m = .int .i64 (u : Int) ∧ sv = .string s ∧ u ≤ f ∧ u ≤ 9223372036854775807 ∧ s.size ≤ 20 ∧ Hid (u < 10 ^ (20 - s.size)) ∧ Hid (digs f u s = fin) ∧ Ext w wr) (fun m _ _ _ => (intOf m).toNat)
    case atStart => exact ⟨U, U, ⟨#[]⟩, rfl, rfl, Nat.le_refl _, by omega, by decide, H1, H0, Below.refl _ _⟩
    case round =>
      obtain ⟨f, u, s, rfl, rfl, hf, hu9, hs, hp, hg, he⟩ := hrel
      clear H0 H1
      by_cases hu : u = 0
      · have E := Lib.hid (show s = fin by have := hg.out; subst hu; cases f <;> simpa [digs] using this)
        subst hu
        go_wp2_with fail
        go_ret
        exact ⟨dec_str E.out, he⟩
      · have b1 : ((u : Int) == 0) = false := by simp; omega
        have b2 : ((u : Int) != 0) = true := by rw [bne, b1]; rfl
        have b3 : decide ((u : Int) % 10 < 0) = false := by rw [decide_eq_false_iff_not]; omega
        obtain ⟨f', rfl⟩ : ∃ k, f = k + 1 := ⟨f - 1, by omega⟩
        have hs2 : s.size ≤ 19 := by
          rcases Nat.lt_or_ge s.size 20 with h | h
          · omega
          · have := hp.out; rw [show 20 - s.size = 0 by omega] at this; omega
        have hg2 := Lib.hid (show digs f' (u / 10) (ofNats [48 + ((u % 10 : Nat) : Int)] ++ s) = fin by have := hg.out; rw [digs, if_neg hu] at this; exact this)
        have hp2 := Lib.hid (show u / 10 < 10 ^ (20 - (ofNats [48 + ((u % 10 : Nat) : Int)] ++ s).size) by
          have h1 := hp.out
          have e1 : (ofNats [48 + ((u % 10 : Nat) : Int)]).size = 1 := rfl
          rw [ByteArray.size_append, e1, show 20 - (1 + s.size) = 19 - s.size by omega]
          rw [show 20 - s.size = (19 - s.size) + 1 by omega, Nat.pow_succ] at h1
          omega)
        go_wp2_with fail
        refine (l01Figure_any _ _ (by omega) (by omega)).mono ?_
        rintro e w1 ⟨rfl, rfl⟩
        rw [show (u : Int) % 10 = ((u % 10 : Nat) : Int) by omega]
        have hk : u % 10 < 10 := Nat.mod_lt _ (by decide)
        have e10 : (u : Int) / 10 = ((u / 10 : Nat) : Int) := by omega
        have hl1 : u / 10 < u := by omega
        have hl2 : u / 10 ≤ f' := by omega
        generalize u % 10 = k at *
        generalize u / 10 = u2 at *
        have hconv := conv_nats [48 + (k : Int)] (by intro x hx; simp only [List.mem_singleton] at hx; subst hx; omega) wr
        simp only [List.length_cons, List.length_nil, Nat.zero_add, List.map_cons, List.map_nil] at hconv
        have hsz : ¬ 9223372036854775807 < (ofNats [48 + (k : Int)]).size + s.size := by show ¬ 9223372036854775807 < 1 + s.size; omega
        have he2 := he.new (.cells #[.int .u8 (48 + (k : Int))] 5)
        have hs3 : (ofNats [48 + (k : Int)] ++ s).size ≤ 20 := by rw [ByteArray.size_append]; show 1 + s.size ≤ 20; omega
        generalize ofNats [48 + (k : Int)] = F at *
        go_wp2_with fail
        go_roundw
        case rel => exact ⟨f', u2, F ++ s, by first | rfl | go_num, rfl, hl2, by omega, hs3, hp2, hg2, he2⟩
        case measure => (first | (simp [intOf]; omega) | (show ((u2 : Int)).toNat < ((u : Int)).toNat; omega))
  case pos =>
    have hd : decide (n < 0) = true := by rw [decide_eq_true_iff]; exact hneg
    obtain ⟨U, rfl⟩ : ∃ k : Nat, n = -(k : Int) := ⟨n.natAbs, by omega⟩
    have hU : 0 < U := by omega
    obtain ⟨fin, hfin⟩ : ∃ fin, fin = digs U U ⟨#[]⟩ := ⟨_, rfl⟩
    have H0 := Lib.hid (show digs U U ⟨#[]⟩ = fin from hfin.symm)
    have H1 := Lib.hid (show U < 10 ^ (20 - (⟨#[]⟩ : ByteArray).size) by show U < 10 ^ 20; omega)
    have EF := Lib.hid (show decT (-(U : Int)) = ⟨#[45]⟩ ++ fin by rw [decT_neg hU, hfin])
    clear hfin
    go_enter Tryd.func16, Tryd.ntmps16
    go_wp2_with fail
    go_loopw [0, 4, 5] (fun m sv _ wr => ∃ (f u : Nat) (s : ByteArray), m = .int .i64 (-(u : Int)) ∧ sv = .string s ∧ u ≤ f ∧ u ≤ 9223372036854775808 ∧ s.size ≤ 20 ∧ Hid (u < 10 ^ (20 - s.size)) ∧ Hid (digs f u s = fin) ∧ Ext w wr) (fun m _ _ _ => (-(intOf m)).toNat)
    case atStart => exact ⟨U, U, ⟨#[]⟩, rfl, rfl, Nat.le_refl _, by omega, by decide, H1, H0, Below.refl _ _⟩
    case round =>
      obtain ⟨f, u, s, rfl, rfl, hf, hu9, hs, hp, hg, he⟩ := hrel
      clear H0 H1
      by_cases hu : u = 0
      · have E := Lib.hid (show s = fin by have := hg.out; subst hu; cases f <;> simpa [digs] using this)
        have hsz : ¬ 9223372036854775807 < (⟨#[45]⟩ : ByteArray).size + s.size := by show ¬ 9223372036854775807 < 1 + s.size; omega
        have hsz2 : ¬ 9223372036854775807 < 1 + s.size := by omega
        subst hu
        go_wp2_with fail
        go_ret
        exact ⟨dec_str (by rw [EF.out, E.out]), he⟩
      · have b1 : (-(u : Int) == 0) = false := by simp; omega
        have b2 : (-(u : Int) != 0) = true := by rw [bne, b1]; rfl
        have t1 : Int.tmod (-(u : Int)) 10 = -((u % 10 : Nat) : Int) := by rw [Int.neg_tmod]; rfl
        have t2 : Int.tdiv (-(u : Int)) 10 = -((u / 10 : Nat) : Int) := by rw [Int.neg_tdiv]; rfl
        obtain ⟨f', rfl⟩ : ∃ k, f = k + 1 := ⟨f - 1, by omega⟩
        have hs2 : s.size ≤ 19 := by
          rcases Nat.lt_or_ge s.size 20 with h | h
          · omega
          · have := hp.out; rw [show 20 - s.size = 0 by omega] at this; omega
        have hg2 := Lib.hid (show digs f' (u / 10) (ofNats [48 + ((u % 10 : Nat) : Int)] ++ s) = fin by have := hg.out; rw [digs, if_neg hu] at this; exact this)
        have hp2 := Lib.hid (show u / 10 < 10 ^ (20 - (ofNats [48 + ((u % 10 : Nat) : Int)] ++ s).size) by
          have h1 := hp.out
          have e1 : (ofNats [48 + ((u % 10 : Nat) : Int)]).size = 1 := rfl
          rw [ByteArray.size_append, e1, show 20 - (1 + s.size) = 19 - s.size by omega]
          rw [show 20 - s.size = (19 - s.size) + 1 by omega, Nat.pow_succ] at h1
          omega)
        have hk : u % 10 < 10 := Nat.mod_lt _ (by decide)
        have hlt : u / 10 < u := by omega
        generalize u % 10 = k at *
        generalize u / 10 = u2 at *
        have hl2 : u2 ≤ f' := by omega
        have hconv := conv_nats [48 + (k : Int)] (by intro x hx; simp only [List.mem_singleton] at hx; subst hx; omega) wr
        simp only [List.length_cons, List.length_nil, Nat.zero_add, List.map_cons, List.map_nil] at hconv
        have hsz : ¬ 9223372036854775807 < (ofNats [48 + (k : Int)]).size + s.size := by show ¬ 9223372036854775807 < 1 + s.size; omega
        have he2 := he.new (.cells #[.int .u8 (48 + (k : Int))] 5)
        have hs3 : (ofNats [48 + (k : Int)] ++ s).size ≤ 20 := by rw [ByteArray.size_append]; show 1 + s.size ≤ 20; omega
        generalize ofNats [48 + (k : Int)] = F at *
        by_cases hk0 : k = 0
        · subst hk0
          go_wp2_with fail
          refine (l01Figure_any _ _ (by omega) (by omega)).mono ?_
          rintro e w1 ⟨rfl, rfl⟩
          simp only [Int.natCast_zero, Int.add_zero, Int.ofNat_zero] at hconv he2 ⊢
          go_wp2_with fail
          go_roundw
          case rel => exact ⟨f', u2, F ++ s, by first | rfl | go_num, rfl, hl2, by omega, hs3, hp2, hg2, he2⟩
          case measure => simp [intOf]; omega
        · have b4 : decide (0 < k) = true := by rw [decide_eq_true_iff]; omega
          go_wp2_with fail
          refine (l01Figure_any _ _ (by omega) (by omega)).mono ?_
          rintro e w1 ⟨rfl, rfl⟩
          go_wp2_with fail
          go_roundw
          case rel => exact ⟨f', u2, F ++ s, by first | rfl | go_num, rfl, hl2, by omega, hs3, hp2, hg2, he2⟩
          case measure => simp [intOf]; omega
end Go.Proofs.YtichegndafnjeaaDoor
