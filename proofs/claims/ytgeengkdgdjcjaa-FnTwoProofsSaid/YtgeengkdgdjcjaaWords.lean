/-
  Words: No condition.
-/
import Derived.Test.YtgeengkdgdjcjaaTexts
import Derived.Laws.BitsAllLaws
namespace Go.Proofs.Ytgeengkdgdjcjaa
set_option maxHeartbeats 1000000
set_option maxRecDepth 100000
set_option linter.unusedSimpArgs false
open Go.RowKit
set_option linter.unusedVariables false
def hconst (k : Int) : Int := (k + 1) * 2654435761 % 4294967296
theorem Constant_any (k : Int) (w : World) (h0 : 0 ≤ k) (h1 : k ≤ 1000) : Calls Try.prog 72 #[.int .i64 k] w fun e w' => e = .returned (.int .u32 (hconst k)) ∧ w = w' := by
 go_enter Try.func72, Try.ntmps72
 go_wp2_with fail
 go_ret
 exact ⟨rfl, rfl⟩
theorem specConstant_any (k : Int) (w : World) (h0 : 0 ≤ k) (h1 : k ≤ 1000) : Calls Try.prog 66 #[.int .i64 k] w fun e w' => e = .returned (.int .u32 (hconst k)) ∧ w = w' := by
 go_enter Try.func66, Try.ntmps66
 go_wp2_with fail
 go_ret
 exact ⟨rfl, rfl⟩
def byt (T : ByteArray) (i : Nat) : Int := if h : i < T.size then (T[i].toNat : Int) else 0
theorem byt_of {T : ByteArray} {i : Nat} (h : i < T.size) : byt T i = (T[i].toNat : Int) := by simp [byt, h]
theorem byt_rng (T : ByteArray) (i : Nat) : 0 ≤ byt T i ∧ byt T i < 256 := by
 unfold byt
 split
 · rename_i h
   have := T[i].toNat_lt
   omega
 · omega
def wordI (T : ByteArray) (a : Nat) : Int := ((byt T a * 256 + byt T (a + 1)) * 256 + byt T (a + 2)) * 256 + byt T (a + 3)
theorem wordI_rng (T : ByteArray) (a : Nat) : 0 ≤ wordI T a ∧ wordI T a < 4294967296 := by
 have h0 := byt_rng T a
 have h1 := byt_rng T (a + 1)
 have h2 := byt_rng T (a + 2)
 have h3 := byt_rng T (a + 3)
 unfold wordI
 omega
theorem or_join (x y m : Nat) (i : Nat) (hm : m = 2 ^ i) (hx : x % m = 0) (hy : y < m) (hs : x < 4294967296) (hy2 : y < 4294967296) : bits .or .u32 (x : Int) (y : Int) = ((x + y : Nat) : Int) := by
 rw [u32_or_nat _ _ hs hy2, nat_join i x y (by rw [← hm]; exact hx) (by rw [← hm]; exact hy)]
theorem or_four (a b c d : Nat) (ha : a < 256) (hb : b < 256) (hc : c < 256) (hd : d < 256) :
 bits .or .u32 (bits .or .u32 (bits .or .u32 ((a : Int) % 4294967296 * 16777216 % 4294967296) ((b : Int) % 4294967296 * 65536 % 4294967296)) ((c : Int) % 4294967296 * 256 % 4294967296)) ((d : Int) % 4294967296) = (((a : Int) * 256 + b) * 256 + c) * 256 + d := by
 have e0 : (a : Int) % 4294967296 * 16777216 % 4294967296 = ((a * 16777216 : Nat) : Int) := by omega
 have e1 : (b : Int) % 4294967296 * 65536 % 4294967296 = ((b * 65536 : Nat) : Int) := by omega
 have e2 : (c : Int) % 4294967296 * 256 % 4294967296 = ((c * 256 : Nat) : Int) := by omega
 have e3 : (d : Int) % 4294967296 = (d : Int) := by omega
 rw [e0, e1, e2, e3, or_join _ _ 16777216 24 (by decide) (by omega) (by omega) (by omega) (by omega), or_join _ _ 65536 16 (by decide) (by omega) (by omega) (by omega) (by omega),
  or_join _ _ 256 8 (by decide) (by omega) (by omega) (by omega) (by omega)]
 omega
theorem WordAt_any (T : ByteArray) (a : Nat) (w : World) (h : a + 4 ≤ T.size) (hT : T.size ≤ 1099511627776) : Calls Try.prog 60 #[.string T, .int .i64 (a : Int)] w fun e w' => e = .returned (.int .u32 (wordI T a)) ∧ ∃ m, w' = w.drewN m := by
 have a0 : (a : Int) < (T.size : Int) := by omega
 have a1 : (a : Int) + 1 < (T.size : Int) := by omega
 have a2 : (a : Int) + 2 < (T.size : Int) := by omega
 have a3 : (a : Int) + 3 < (T.size : Int) := by omega
 have b0 : a < T.size := by omega
 have b1 : a + 1 < T.size := by omega
 have b2 : a + 2 < T.size := by omega
 have b3 : a + 3 < T.size := by omega
 have E : Hid (wordI T a = bits .or .u32 (bits .or .u32 (bits .or .u32 ((T[a].toNat : Int) % 4294967296 * 16777216 % 4294967296) ((T[a + 1].toNat : Int) % 4294967296 * 65536 % 4294967296)) ((T[a + 2].toNat : Int) % 4294967296 * 256 % 4294967296)) ((T[a + 3].toNat : Int) % 4294967296)) :=
  hU (by rw [or_four _ _ _ _ T[a].toNat_lt T[a + 1].toNat_lt T[a + 2].toNat_lt T[a + 3].toNat_lt, wordI, byt_of b0, byt_of b1, byt_of b2, byt_of b3])
 have d0 : decide ((a : Int) < 0) = false := by rw [decide_eq_false_iff_not]; omega
 have d1 : decide ((T.size : Int) - 4 < (a : Int)) = false := by rw [decide_eq_false_iff_not]; omega
 have w1 : IntKind.i64.wrap ((a : Int) + 1) = (a : Int) + 1 := IntWalk.i64_in _ (by omega)
 have w2 : IntKind.i64.wrap ((a : Int) + 2) = (a : Int) + 2 := IntWalk.i64_in _ (by omega)
 have w3 : IntKind.i64.wrap ((a : Int) + 3) = (a : Int) + 3 := IntWalk.i64_in _ (by omega)
 have n1 : ((a : Int) + 1).toNat = a + 1 := by omega
 have n2 : ((a : Int) + 2).toNat = a + 2 := by omega
 have n3 : ((a : Int) + 3).toNat = a + 3 := by omega
 have p1 : (0 : Int) ≤ (a : Int) + 1 := by omega
 have p2 : (0 : Int) ≤ (a : Int) + 2 := by omega
 have p3 : (0 : Int) ≤ (a : Int) + 3 := by omega
 go_enter Try.func60, Try.ntmps60
 go_wp2_with fail
 go_quiet (fail)
 go_wp2_with fail
 go_ret
 exact ⟨ret_int E.out.symm, nq, rfl⟩
theorem WordAtI_any (T : ByteArray) (a : Int) (w : World) (h0 : 0 ≤ a) (h : a + 4 ≤ T.size) (hT : T.size ≤ 1099511627776) : Calls Try.prog 60 #[.string T, .int .i64 a] w fun e w' => e = .returned (.int .u32 (wordI T a.toNat)) ∧ ∃ m, w' = w.drewN m := by
 obtain ⟨k, rfl⟩ := Int.eq_ofNat_of_zero_le h0
 rw [Int.toNat_natCast]
 exact WordAt_any T k w (by omega) hT
def wpart (T : ByteArray) (a : Nat) : Nat → Int
 | 0 => 0
 | k + 1 => wpart T a k * 256 + byt T (a + k)
theorem wpart_four (T : ByteArray) (a : Nat) : wpart T a 4 = wordI T a := by simp only [wpart, wordI, Nat.add_zero]; omega
theorem specWordAt_any (T : ByteArray) (a : Nat) (w : World) (h : a + 4 ≤ T.size) (hT : T.size ≤ 1099511627776) : Calls Try.prog 65 #[.string T, .int .i64 (a : Int)] w fun e w' => e = .returned (.int .u32 (wordI T a)) ∧ w = w' := by
 have hsz : (4 : Int) ≤ (T.size : Int) := by omega
 have ha : (a : Int) ≤ (T.size : Int) - 4 := by omega
 have d0 : decide ((a : Int) < 0) = false := by rw [decide_eq_false_iff_not]; omega
 have d2 : decide ((T.size : Int) < 4) = false := by rw [decide_eq_false_iff_not]; omega
 have d1 : decide ((T.size : Int) - 4 < (a : Int)) = false := by rw [decide_eq_false_iff_not]; omega
 have E := hU (wpart_four T a)
 go_enter Try.func65, Try.ntmps65
 go_wp2_with fail
 go_loop [5, 6] (fun x i => ∃ (k : Nat) (q : Int), k ≤ 4 ∧ i = .int .i64 k ∧ x = .int .u32 q ∧ 0 ≤ q ∧ q < 256 ^ k ∧ Hid (q = wpart T a k)) (fun _ i => 4 - (intOf i).toNat)
 case atStart => exact ⟨0, 0, by omega, rfl, rfl, by omega, by decide, hU rfl⟩
 case round =>
  obtain ⟨k, q, hk, rfl, rfl, q0, q1, hq⟩ := hrel
  clear d0 d1 d2
  by_cases hlt : k < 4
  · have ht : a + k < T.size := by omega
    have hb := byt_rng T (a + k)
    obtain ⟨c, hc⟩ : ∃ c, c = byt T (a + k) := ⟨_, rfl⟩
    have Hc := hU hc
    rw [← hc] at hb
    rw [byt_of ht] at hc
    have hq1 : q < 16777216 := by
     have : k = 0 ∨ k = 1 ∨ k = 2 ∨ k = 3 := by omega
     rcases this with rfl | rfl | rfl | rfl <;> omega
    have hq2 : q * 256 + c < 256 ^ (k + 1) := by
     have : k = 0 ∨ k = 1 ∨ k = 2 ∨ k = 3 := by omega
     rcases this with rfl | rfl | rfl | rfl <;> omega
    have E2 : Hid (q * 256 + c = wpart T a (k + 1)) := hU (by rw [hq.out, Hc.out]; rfl)
    clear q1
    obtain ⟨hb0, hb1⟩ := hb
    have hc' : (T[a + k].toNat : Int) = c := hc.symm
    clear hc
    go_wp2_with fail
    go_round
    case rel => exact ⟨k + 1, q * 256 + c, by omega, by go_num, by go_num, by omega, hq2, E2⟩
    case measure => simp [intOf]; omega
  · obtain rfl : k = 4 := by omega
    go_wp2_with fail
    go_ret
    exact ⟨ret_int (by rw [hq.out, E.out]), rfl⟩
theorem specWordAtI_any (T : ByteArray) (a : Int) (w : World) (h0 : 0 ≤ a) (h : a + 4 ≤ T.size) (hT : T.size ≤ 1099511627776) : Calls Try.prog 65 #[.string T, .int .i64 a] w fun e w' => e = .returned (.int .u32 (wordI T a.toNat)) ∧ w = w' := by
 obtain ⟨k, rfl⟩ := Int.eq_ofNat_of_zero_le h0
 rw [Int.toNat_natCast]
 exact specWordAt_any T k w (by omega) hT
def wtext (x : Int) : ByteArray := ofInts [x / 16777216, x / 65536 % 256, x / 256 % 256, x % 256]
theorem wtext_size (x : Int) : (wtext x).size = 4 := rfl
theorem WordText_any (x : Int) (w : World) (h0 : 0 ≤ x) (h1 : x < 4294967296) : Calls Try.prog 63 #[.int .u32 x] w fun e w' => e = .returned (.string (wtext x)) ∧ Ext w w' := by
 have hconv := conv_bytes [x / 16777216, x / 65536 % 256, x / 256 % 256, x % 256] (by intro y hy; simp only [List.mem_cons, List.not_mem_nil, or_false] at hy; rcases hy with rfl | rfl | rfl | rfl <;> omega) w
 simp only [List.length_cons, List.length_nil, Nat.zero_add, Nat.reduceAdd, List.map_cons, List.map_nil] at hconv
 go_enter Try.func63, Try.ntmps63
 go_wp2_with fail
 go_ret
 exact ⟨rfl, by go_grown⟩
theorem specWordText_any (x : Int) (w : World) (h0 : 0 ≤ x) (h1 : x < 4294967296) : Calls Try.prog 64 #[.int .u32 x] w fun e w' => e = .returned (.string (wtext x)) ∧ Ext w w' := by
 have hconv := conv_bytes [x / 16777216, x / 65536 % 256, x / 256 % 256, x % 256] (by intro y hy; simp only [List.mem_cons, List.not_mem_nil, or_false] at hy; rcases hy with rfl | rfl | rfl | rfl <;> omega) w
 simp only [List.length_cons, List.length_nil, Nat.zero_add, Nat.reduceAdd, List.map_cons, List.map_nil] at hconv
 go_enter Try.func64, Try.ntmps64
 go_wp2_with fail
 go_ret
 exact ⟨rfl, by go_grown⟩
end Go.Proofs.Ytgeengkdgdjcjaa
