/-
  Texts; Words; Turns; Hash: No condition.
-/
import Derived.Test.YtlgdghpnfclgpaaGreatTypes
import Derived.Laws.BitsAllLaws
import Derived.Laws.ShiftsVarLaws
namespace Go.Proofs.YtlgdghpnfclgpaaGreat
set_option maxHeartbeats 1000000
set_option maxRecDepth 100000
set_option linter.unusedSimpArgs false
open Go.RowKit
set_option linter.unusedVariables false
def ofInts (ns : List Int) : ByteArray := ⟨(ns.map fun x => UInt8.ofNat x.toNat).toArray⟩
theorem conv_bytes (ns : List Int) (h : ∀ x ∈ ns, 0 ≤ x ∧ x < 256) (w : World) :
 (convert 166 9 (.slice (some ⟨w.heap.size, 0, none⟩) ns.length ns.length)).run Tryz.prog (w.alloc (.cells (ns.map (Value.int .u8)).toArray 5)) =
  .ok (.string (ofInts ns)) (w.alloc (.cells (ns.map (Value.int .u8)).toArray 5)) := by
 have hb := Blk.new w 5 (ns.map (Value.int .u8)).toArray
 have h0 := run_convert_bytes_back (P := Tryz.prog) (w.alloc (.cells (ns.map (Value.int .u8)).toArray 5)) 166 9 5 ⟨w.heap.size, 0, none⟩ ns.length (ns.map fun x => UInt8.ofNat x.toNat)
  Tryz.underlying166 Tryz.underlying5 Tryz.underlying9 (fun j hj => by
   rw [add_mk, Nat.zero_add, hb.cell]
   have hj' : j < ns.length := by simpa using hj
   obtain ⟨h1, h2⟩ := h ns[j] (List.getElem_mem hj')
   simp only [List.getElem?_toArray, List.getElem?_map, List.getElem?_eq_getElem hj', Option.map_some, List.getElem_map, Option.some.injEq, Value.int.injEq, true_and]
   rw [UInt8.toNat_ofNat_of_lt' (by show ns[j].toNat < 256; omega)]
   omega)
 simp only [List.length_map] at h0
 exact h0
def octB (n : Int) : ByteArray := ofInts [n % 256]
theorem octet_any (n : Int) (w : World) : Calls Tryz.prog 238 #[.int .i64 n] w fun e w' => e = .returned (.string (octB n)) ∧ Ext w w' := by
 have hconv := conv_bytes [n % 256] (by intro x hx; simp only [List.mem_singleton] at hx; subst hx; omega) w
 simp only [List.length_cons, List.length_nil, Nat.zero_add, List.map_cons, List.map_nil] at hconv
 go_enter Tryz.func238, Tryz.ntmps238
 go_wp2_with fail
 go_ret
 exact ⟨rfl, by go_grown⟩
theorem octB_size (n : Int) : (octB n).size = 1 := rfl
theorem pair_any (n : Int) (w : World) (h0 : 0 ≤ n) (h1 : n ≤ 65535) : Calls Tryz.prog 209 #[.int .i64 n] w fun e w' => e = .returned (.string (octB (n / 256) ++ octB n)) ∧ Ext w w' := by
 go_enter Tryz.func209, Tryz.ntmps209
 go_wp2_with fail
 refine (octet_any _ _).mono ?_
 rintro e w1 ⟨rfl, he⟩
 go_wp2_with fail
 refine (octet_any _ _).mono ?_
 rintro e w2 ⟨rfl, h1⟩
 replace he := he.next h1
 go_wp2_with fail
 go_ret
 exact ⟨rfl, he⟩
theorem shortS_any (s : ByteArray) (w : World) (hs : s.size ≤ 1099511627776) : Calls Tryz.prog 208 #[.string s] w fun e w' => e = .returned (.string (octB s.size ++ s)) ∧ Ext w w' := by
 have hz : (octB (s.size : Int)).size ≤ 1 := by rw [octB_size]; exact Nat.le_refl _
 go_enter Tryz.func208, Tryz.ntmps208
 go_wp2_with fail
 refine (octet_any _ _).mono ?_
 rintro e w1 ⟨rfl, he⟩
 go_wp2_with fail
 go_ret
 exact ⟨rfl, he⟩
def lowB (n : Nat) : Nat → ByteArray
 | 0 => ⟨#[]⟩
 | i + 1 => octB ((n / 256 ^ i : Nat) : Int) ++ lowB n i
theorem lowB_size (n : Nat) : ∀ i, (lowB n i).size = i
 | 0 => rfl
 | i + 1 => by rw [lowB, ByteArray.size_append, octB_size, lowB_size n i, Nat.add_comm]
theorem l03Number_any (n b : Nat) (w : World) (hn : n ≤ 1099511627776) (hb : b ≤ 16) : Calls Tryz.prog 183 #[.int .i64 (n : Int), .int .i64 (b : Int)] w fun e w' => e = .returned (.string (lowB n b)) ∧ Ext w w' := by
 have Hs := hU (lowB_size n)
 go_enter Tryz.func183, Tryz.ntmps183
 go_wp2_with fail
 go_loopw [0, 5, 6] (fun sn st i wr => ∃ (k q : Nat) (t : ByteArray), k ≤ b ∧ i = .int .i64 k ∧ sn = .int .i64 q ∧ st = .string t ∧ q ≤ 1099511627776 ∧ t.size ≤ 16 ∧ Hid (q = n / 256 ^ k) ∧ Hid (t = lowB n k) ∧ Ext w wr) (fun _ _ i _ => b - (intOf i).toNat)
 case atStart => exact ⟨0, n, ⟨#[]⟩, Nat.zero_le _, rfl, rfl, rfl, hn, by decide, hU (by simp), hU rfl, Below.refl _ _⟩
 case round =>
  obtain ⟨k, q, t, hk, rfl, rfl, rfl, hq, ht, eq, et, he⟩ := hrel
  by_cases hlt : k < b
  · have hconv := conv_bytes [(q : Int) % 256] (by intro x hx; simp only [List.mem_singleton] at hx; subst hx; omega) wr
    simp only [List.length_cons, List.length_nil, Nat.zero_add, List.map_cons, List.map_nil] at hconv
    have ho : ofInts [(q : Int) % 256] = octB q := rfl
    rw [ho] at hconv
    clear ho
    have hz : (octB (q : Int)).size ≤ 1 := by rw [octB_size]; exact Nat.le_refl _
    have E1 := hU (show q / 256 = n / 256 ^ (k + 1) by rw [eq.out, Nat.div_div_eq_div_mul, ← Nat.pow_succ])
    have E2 := hU (show octB (q : Int) ++ t = lowB n (k + 1) by rw [et.out, eq.out]; rfl)
    have E3 : (octB (q : Int) ++ t).size ≤ 16 := by rw [E2.out, Hs.out]; omega
    go_wp2_with fail
    go_roundw
    case rel => exact ⟨k + 1, q / 256, _, by omega, by go_num, by go_num, rfl, by omega, E3, E1, E2, he.new _⟩
    case measure => simp [intOf]; omega
  · have E : Hid (t = lowB n b) := by
     obtain rfl : k = b := by omega
     exact et
    go_wp2_with fail
    go_ret
    exact ⟨ret_str E.out, he⟩
theorem append_nil (a : ByteArray) : a ++ ⟨#[]⟩ = a := by
 apply ByteArray.ext
 rw [ByteArray.data_append]
 exact Array.append_empty
theorem lowB_one (n : Nat) : lowB n 1 = octB n := by
 show octB ((n / 256 ^ 0 : Nat) : Int) ++ ⟨#[]⟩ = _
 rw [append_nil]; simp
theorem lowB_two (n : Nat) : lowB n 2 = octB ((n : Int) / 256) ++ octB n := by
 show octB ((n / 256 ^ 1 : Nat) : Int) ++ lowB n 1 = _
 rw [lowB_one]; simp
theorem l03NumberI_any (n : Int) (b : Nat) (w : World) (h0 : 0 ≤ n) (hn : n ≤ 1099511627776) (hb : b ≤ 16) : Calls Tryz.prog 183 #[.int .i64 n, .int .i64 (b : Int)] w fun e w' => e = .returned (.string (lowB n.toNat b)) ∧ Ext w w' := by
 obtain ⟨m, rfl⟩ := Int.eq_ofNat_of_zero_le h0
 rw [Int.toNat_natCast]
 exact l03Number_any m b w (by omega) hb
theorem l03Short_any (s : ByteArray) (w : World) (hs : s.size ≤ 1099511627776) : Calls Tryz.prog 184 #[.string s] w fun e w' => e = .returned (.string (lowB s.size 1 ++ s)) ∧ Ext w w' := by
 have hz : (lowB s.size 1).size ≤ 1 := by rw [lowB_size]; exact Nat.le_refl _
 go_enter Tryz.func184, Tryz.ntmps184
 go_wp2_with fail
 refine (l03Number_any s.size 1 _ hs (by decide)).mono ?_
 rintro e w1 ⟨rfl, he⟩
 go_wp2_with fail
 go_ret
 exact ⟨rfl, he⟩
def hconst (k : Int) : Int := (k + 1) * 2654435761 % 4294967296
theorem Constant_any (k : Int) (w : World) (h0 : 0 ≤ k) (h1 : k ≤ 1000) : Calls Tryz.prog 259 #[.int .i64 k] w fun e w' => e = .returned (.int .u32 (hconst k)) ∧ w = w' := by
 go_enter Tryz.func259, Tryz.ntmps259
 go_wp2_with fail
 go_ret
 exact ⟨rfl, rfl⟩
theorem specConstant_any (k : Int) (w : World) (h0 : 0 ≤ k) (h1 : k ≤ 1000) : Calls Tryz.prog 255 #[.int .i64 k] w fun e w' => e = .returned (.int .u32 (hconst k)) ∧ w = w' := by
 go_enter Tryz.func255, Tryz.ntmps255
 go_wp2_with fail
 go_ret
 exact ⟨rfl, rfl⟩
def byt (T : ByteArray) (i : Nat) : Int := if h : i < T.size then (T[i].toNat : Int) else 0
theorem byt_of {T : ByteArray} {i : Nat} (h : i < T.size) : byt T i = (T[i].toNat : Int) := by simp [byt, h]
theorem byt_rng (T : ByteArray) (i : Nat) : 0 ≤ byt T i ∧ byt T i < 256 := by
 unfold byt
 split
 · rename_i h
   have := T[i].toNat_lt
   omega
 · omega
def wordI (T : ByteArray) (a : Nat) : Int := ((byt T a * 256 + byt T (a + 1)) * 256 + byt T (a + 2)) * 256 + byt T (a + 3)
theorem wordI_rng (T : ByteArray) (a : Nat) : 0 ≤ wordI T a ∧ wordI T a < 4294967296 := by
 have h0 := byt_rng T a
 have h1 := byt_rng T (a + 1)
 have h2 := byt_rng T (a + 2)
 have h3 := byt_rng T (a + 3)
 unfold wordI
 omega
theorem or_join (x y m : Nat) (i : Nat) (hm : m = 2 ^ i) (hx : x % m = 0) (hy : y < m) (hs : x < 4294967296) (hy2 : y < 4294967296) : bits .or .u32 (x : Int) (y : Int) = ((x + y : Nat) : Int) := by
 rw [u32_or_nat _ _ hs hy2, nat_join i x y (by rw [← hm]; exact hx) (by rw [← hm]; exact hy)]
theorem or_four (a b c d : Nat) (ha : a < 256) (hb : b < 256) (hc : c < 256) (hd : d < 256) :
 bits .or .u32 (bits .or .u32 (bits .or .u32 ((a : Int) % 4294967296 * 16777216 % 4294967296) ((b : Int) % 4294967296 * 65536 % 4294967296)) ((c : Int) % 4294967296 * 256 % 4294967296)) ((d : Int) % 4294967296) = (((a : Int) * 256 + b) * 256 + c) * 256 + d := by
 have e0 : (a : Int) % 4294967296 * 16777216 % 4294967296 = ((a * 16777216 : Nat) : Int) := by omega
 have e1 : (b : Int) % 4294967296 * 65536 % 4294967296 = ((b * 65536 : Nat) : Int) := by omega
 have e2 : (c : Int) % 4294967296 * 256 % 4294967296 = ((c * 256 : Nat) : Int) := by omega
 have e3 : (d : Int) % 4294967296 = (d : Int) := by omega
 rw [e0, e1, e2, e3, or_join _ _ 16777216 24 (by decide) (by omega) (by omega) (by omega) (by omega), or_join _ _ 65536 16 (by decide) (by omega) (by omega) (by omega) (by omega),
  or_join _ _ 256 8 (by decide) (by omega) (by omega) (by omega) (by omega)]
 omega
theorem WordAt_any (T : ByteArray) (a : Nat) (w : World) (h : a + 4 ≤ T.size) (hT : T.size ≤ 1099511627776) : Calls Tryz.prog 247 #[.string T, .int .i64 (a : Int)] w fun e w' => e = .returned (.int .u32 (wordI T a)) ∧ ∃ m, w' = w.drewN m := by
 have a0 : (a : Int) < (T.size : Int) := by omega
 have a1 : (a : Int) + 1 < (T.size : Int) := by omega
 have a2 : (a : Int) + 2 < (T.size : Int) := by omega
 have a3 : (a : Int) + 3 < (T.size : Int) := by omega
 have b0 : a < T.size := by omega
 have b1 : a + 1 < T.size := by omega
 have b2 : a + 2 < T.size := by omega
 have b3 : a + 3 < T.size := by omega
 have E : Hid (wordI T a = bits .or .u32 (bits .or .u32 (bits .or .u32 ((T[a].toNat : Int) % 4294967296 * 16777216 % 4294967296) ((T[a + 1].toNat : Int) % 4294967296 * 65536 % 4294967296)) ((T[a + 2].toNat : Int) % 4294967296 * 256 % 4294967296)) ((T[a + 3].toNat : Int) % 4294967296)) :=
  hU (by rw [or_four _ _ _ _ T[a].toNat_lt T[a + 1].toNat_lt T[a + 2].toNat_lt T[a + 3].toNat_lt, wordI, byt_of b0, byt_of b1, byt_of b2, byt_of b3])
 have d0 : decide ((a : Int) < 0) = false := by rw [decide_eq_false_iff_not]; omega
 have d1 : decide ((T.size : Int) - 4 < (a : Int)) = false := by rw [decide_eq_false_iff_not]; omega
 have w1 : IntKind.i64.wrap ((a : Int) + 1) = (a : Int) + 1 := IntWalk.i64_in _ (by omega)
 have w2 : IntKind.i64.wrap ((a : Int) + 2) = (a : Int) + 2 := IntWalk.i64_in _ (by omega)
 have w3 : IntKind.i64.wrap ((a : Int) + 3) = (a : Int) + 3 := IntWalk.i64_in _ (by omega)
 have n1 : ((a : Int) + 1).toNat = a + 1 := by omega
 have n2 : ((a : Int) + 2).toNat = a + 2 := by omega
 have n3 : ((a : Int) + 3).toNat = a + 3 := by omega
 have p1 : (0 : Int) ≤ (a : Int) + 1 := by omega
 have p2 : (0 : Int) ≤ (a : Int) + 2 := by omega
 have p3 : (0 : Int) ≤ (a : Int) + 3 := by omega
 go_enter Tryz.func247, Tryz.ntmps247
 go_wp2_with fail
 go_quiet (fail)
 go_wp2_with fail
 go_ret
 exact ⟨ret_int E.out.symm, nq, rfl⟩
theorem WordAtI_any (T : ByteArray) (a : Int) (w : World) (h0 : 0 ≤ a) (h : a + 4 ≤ T.size) (hT : T.size ≤ 1099511627776) : Calls Tryz.prog 247 #[.string T, .int .i64 a] w fun e w' => e = .returned (.int .u32 (wordI T a.toNat)) ∧ ∃ m, w' = w.drewN m := by
 obtain ⟨k, rfl⟩ := Int.eq_ofNat_of_zero_le h0
 rw [Int.toNat_natCast]
 exact WordAt_any T k w (by omega) hT
def wpart (T : ByteArray) (a : Nat) : Nat → Int
 | 0 => 0
 | k + 1 => wpart T a k * 256 + byt T (a + k)
theorem wpart_four (T : ByteArray) (a : Nat) : wpart T a 4 = wordI T a := by simp only [wpart, wordI, Nat.add_zero]; omega
theorem specWordAt_any (T : ByteArray) (a : Nat) (w : World) (h : a + 4 ≤ T.size) (hT : T.size ≤ 1099511627776) : Calls Tryz.prog 254 #[.string T, .int .i64 (a : Int)] w fun e w' => e = .returned (.int .u32 (wordI T a)) ∧ w = w' := by
 have hsz : (4 : Int) ≤ (T.size : Int) := by omega
 have ha : (a : Int) ≤ (T.size : Int) - 4 := by omega
 have d0 : decide ((a : Int) < 0) = false := by rw [decide_eq_false_iff_not]; omega
 have d2 : decide ((T.size : Int) < 4) = false := by rw [decide_eq_false_iff_not]; omega
 have d1 : decide ((T.size : Int) - 4 < (a : Int)) = false := by rw [decide_eq_false_iff_not]; omega
 have E := hU (wpart_four T a)
 go_enter Tryz.func254, Tryz.ntmps254
 go_wp2_with fail
 go_loop [5, 6] (fun x i => ∃ (k : Nat) (q : Int), k ≤ 4 ∧ i = .int .i64 k ∧ x = .int .u32 q ∧ 0 ≤ q ∧ q < 256 ^ k ∧ Hid (q = wpart T a k)) (fun _ i => 4 - (intOf i).toNat)
 case atStart => exact ⟨0, 0, by omega, rfl, rfl, by omega, by decide, hU rfl⟩
 case round =>
  obtain ⟨k, q, hk, rfl, rfl, q0, q1, hq⟩ := hrel
  clear d0 d1 d2
  by_cases hlt : k < 4
  · have ht : a + k < T.size := by omega
    have hb := byt_rng T (a + k)
    obtain ⟨c, hc⟩ : ∃ c, c = byt T (a + k) := ⟨_, rfl⟩
    have Hc := hU hc
    rw [← hc] at hb
    rw [byt_of ht] at hc
    have hq1 : q < 16777216 := by
     have : k = 0 ∨ k = 1 ∨ k = 2 ∨ k = 3 := by omega
     rcases this with rfl | rfl | rfl | rfl <;> omega
    have hq2 : q * 256 + c < 256 ^ (k + 1) := by
     have : k = 0 ∨ k = 1 ∨ k = 2 ∨ k = 3 := by omega
     rcases this with rfl | rfl | rfl | rfl <;> omega
    have E2 : Hid (q * 256 + c = wpart T a (k + 1)) := hU (by rw [hq.out, Hc.out]; rfl)
    clear q1
    obtain ⟨hb0, hb1⟩ := hb
    have hc' : (T[a + k].toNat : Int) = c := hc.symm
    clear hc
    go_wp2_with fail
    go_round
    case rel => exact ⟨k + 1, q * 256 + c, by omega, by go_num, by go_num, by omega, hq2, E2⟩
    case measure => simp [intOf]; omega
  · obtain rfl : k = 4 := by omega
    go_wp2_with fail
    go_ret
    exact ⟨ret_int (by rw [hq.out, E.out]), rfl⟩
theorem specWordAtI_any (T : ByteArray) (a : Int) (w : World) (h0 : 0 ≤ a) (h : a + 4 ≤ T.size) (hT : T.size ≤ 1099511627776) : Calls Tryz.prog 254 #[.string T, .int .i64 a] w fun e w' => e = .returned (.int .u32 (wordI T a.toNat)) ∧ w = w' := by
 obtain ⟨k, rfl⟩ := Int.eq_ofNat_of_zero_le h0
 rw [Int.toNat_natCast]
 exact specWordAt_any T k w (by omega) hT
def wtext (x : Int) : ByteArray := ofInts [x / 16777216, x / 65536 % 256, x / 256 % 256, x % 256]
theorem wtext_size (x : Int) : (wtext x).size = 4 := rfl
theorem WordText_any (x : Int) (w : World) (h0 : 0 ≤ x) (h1 : x < 4294967296) : Calls Tryz.prog 213 #[.int .u32 x] w fun e w' => e = .returned (.string (wtext x)) ∧ Ext w w' := by
 have hconv := conv_bytes [x / 16777216, x / 65536 % 256, x / 256 % 256, x % 256] (by intro y hy; simp only [List.mem_cons, List.not_mem_nil, or_false] at hy; rcases hy with rfl | rfl | rfl | rfl <;> omega) w
 simp only [List.length_cons, List.length_nil, Nat.zero_add, Nat.reduceAdd, List.map_cons, List.map_nil] at hconv
 go_enter Tryz.func213, Tryz.ntmps213
 go_wp2_with fail
 go_ret
 exact ⟨rfl, by go_grown⟩
theorem specWordText_any (x : Int) (w : World) (h0 : 0 ≤ x) (h1 : x < 4294967296) : Calls Tryz.prog 253 #[.int .u32 x] w fun e w' => e = .returned (.string (wtext x)) ∧ Ext w w' := by
 have hconv := conv_bytes [x / 16777216, x / 65536 % 256, x / 256 % 256, x % 256] (by intro y hy; simp only [List.mem_cons, List.not_mem_nil, or_false] at hy; rcases hy with rfl | rfl | rfl | rfl <;> omega) w
 simp only [List.length_cons, List.length_nil, Nat.zero_add, Nat.reduceAdd, List.map_cons, List.map_nil] at hconv
 go_enter Tryz.func253, Tryz.ntmps253
 go_wp2_with fail
 go_ret
 exact ⟨rfl, by go_grown⟩
def rotl (x : Int) (k : Nat) : Int := x * 2 ^ k % 4294967296 + x / 2 ^ (32 - k)
theorem rot_join (X k : Nat) (hX : X < 4294967296) (hk : k < 32) : bits .or .u32 ((X : Int) * 2 ^ k % 4294967296) ((X : Int) / 2 ^ (32 - k)) = rotl X k := by
 have hp : 2 ^ (32 - k) * 2 ^ k = 4294967296 := by rw [← Nat.pow_add, show 32 - k + k = 32 by omega]
 have e1 : (X : Int) * 2 ^ k % 4294967296 = ((X * 2 ^ k % 4294967296 : Nat) : Int) := by simp
 have e2 : (X : Int) / 2 ^ (32 - k) = ((X / 2 ^ (32 - k) : Nat) : Int) := by simp
 have hd : X * 2 ^ k % 4294967296 % 2 ^ k = 0 := by
  rw [← hp, Nat.mod_mul_left_mod]
  exact Nat.mul_mod_left _ _
 have hl : X / 2 ^ (32 - k) < 2 ^ k := Nat.div_lt_of_lt_mul (by rw [hp]; exact hX)
 have hq : X / 2 ^ (32 - k) ≤ X := Nat.div_le_self _ _
 unfold rotl
 rw [e1, e2, or_join _ _ (2 ^ k) k rfl hd hl (Nat.mod_lt _ (by decide)) (by omega)]
 omega
theorem rotl_rng (x : Int) (k : Nat) (h0 : 0 ≤ x) (h1 : x < 4294967296) (hk : k < 32) : 0 ≤ rotl x k ∧ rotl x k < 4294967296 := by
 obtain ⟨X, rfl⟩ := Int.eq_ofNat_of_zero_le h0
 rw [← rot_join X k (by omega) hk]
 have hX : X < 4294967296 := by omega
 have e1 : (X : Int) * 2 ^ k % 4294967296 = ((X * 2 ^ k % 4294967296 : Nat) : Int) := by simp
 have e2 : (X : Int) / 2 ^ (32 - k) = ((X / 2 ^ (32 - k) : Nat) : Int) := by simp
 have hq : X / 2 ^ (32 - k) ≤ X := Nat.div_le_self _ _
 rw [e1, e2, u32_or_nat _ _ (Nat.mod_lt _ (by decide)) (by omega)]
 have := Nat.or_lt_two_pow (n := 32) (x := X * 2 ^ k % 4294967296) (y := X / 2 ^ (32 - k)) (Nat.mod_lt _ (by decide)) (by omega)
 omega
theorem rotl_zero (x : Int) (h0 : 0 ≤ x) (h1 : x < 4294967296) : rotl x 0 = x := by
 simp only [rotl, Int.pow_zero, Int.mul_one, Nat.sub_zero]
 omega
theorem rotl_step (P Q : Int) (H b L : Int) (hPQ : P * Q = 2147483648) (hQ : 0 < Q) (hP : 0 < P) (h0 : 0 ≤ H) (h1 : H < P) (b0 : 0 ≤ b) (b1 : b ≤ 1) (l0 : 0 ≤ L) (l1 : L < Q) :
 (H * (2 * Q) + b * Q + L) * P % 4294967296 = b * 2147483648 + L * P ∧ (H * (2 * Q) + b * Q + L) / (2 * Q) = H ∧ (b * 2147483648 + L * P + H) * 2 % 4294967296 = (L * P + H) * 2 ∧ (b * 2147483648 + L * P + H) / 2147483648 = b ∧
 (H * (2 * Q) + b * Q + L) * (P * 2) % 4294967296 = L * P * 2 ∧ (H * (2 * Q) + b * Q + L) / Q = 2 * H + b := by
 have hb : b = 0 ∨ b = 1 := by omega
 have hLP0 : 0 ≤ L * P := Int.mul_nonneg l0 (Int.le_of_lt hP)
 have hLP : L * P + P ≤ 2147483648 := by
  have : (L + 1) * P ≤ Q * P := Int.mul_le_mul_of_nonneg_right (by omega) (Int.le_of_lt hP)
  rw [Int.add_mul, Int.one_mul, Int.mul_comm Q P, hPQ] at this
  exact this
 have e1 : (H * (2 * Q) + b * Q + L) * P = H * 4294967296 + b * 2147483648 + L * P := by
  rw [Int.add_mul, Int.add_mul, Int.mul_assoc H, Int.mul_assoc 2, Int.mul_comm Q P, hPQ, Int.mul_assoc b, Int.mul_comm Q P, hPQ]; omega
 have e2 : (H * (2 * Q) + b * Q + L) * (P * 2) = (H * 4294967296 + b * 2147483648 + L * P) * 2 := by rw [← Int.mul_assoc, e1]
 have e3 : (H * (2 * Q) + b * Q + L) / Q = 2 * H + b := by
  rw [show H * (2 * Q) + b * Q + L = L + (2 * H + b) * Q by rw [Int.add_mul, ← Int.mul_assoc, Int.mul_comm H 2]; omega, Int.add_mul_ediv_right _ _ (by omega), Int.ediv_eq_zero_of_lt l0 l1]; omega
 have e4 : (H * (2 * Q) + b * Q + L) / (2 * Q) = H := by
  have hbQ : 0 ≤ b * Q + L ∧ b * Q + L < 2 * Q := by rcases hb with rfl | rfl <;> omega
  rw [show H * (2 * Q) + b * Q + L = (b * Q + L) + H * (2 * Q) by omega, Int.add_mul_ediv_right _ _ (by omega), Int.ediv_eq_zero_of_lt hbQ.1 hbQ.2]; omega
 generalize L * P = Z at *
 refine ⟨?_, e4, ?_, ?_, ?_, e3⟩
 · rw [e1]; rcases hb with rfl | rfl <;> omega
 · rcases hb with rfl | rfl <;> omega
 · rcases hb with rfl | rfl <;> omega
 · rw [e2]; rcases hb with rfl | rfl <;> omega
theorem rotl_succ (x : Int) (k : Nat) (h0 : 0 ≤ x) (h1 : x < 4294967296) (hk : k < 31) : rotl (rotl x k) 1 = rotl x (k + 1) := by
 have hPQ : (2 : Int) ^ k * 2 ^ (31 - k) = 2147483648 := by rw [← Int.pow_add, show k + (31 - k) = 31 by omega]; rfl
 have hQ : (0 : Int) < 2 ^ (31 - k) := Int.pow_pos (by decide)
 have hP : (0 : Int) < 2 ^ k := Int.pow_pos (by decide)
 have hQ2 : (2 : Int) ^ (32 - k) = 2 * 2 ^ (31 - k) := by rw [show 32 - k = (31 - k) + 1 by omega, Int.pow_succ, Int.mul_comm]
 have hQ1 : (2 : Int) ^ (32 - (k + 1)) = 2 ^ (31 - k) := by rw [show 32 - (k + 1) = 31 - k by omega]
 have hP1 : (2 : Int) ^ (k + 1) = 2 ^ k * 2 := Int.pow_succ _ _
 unfold rotl
 rw [hQ2, hQ1, hP1, Int.pow_succ, Int.pow_zero, Int.one_mul, show (2 : Int) ^ (32 - 1) = 2147483648 by decide]
 generalize (2 : Int) ^ k = P at *
 generalize (2 : Int) ^ (31 - k) = Q at *
 have hH0 : 0 ≤ x / (2 * Q) := Int.ediv_nonneg h0 (by omega)
 have hH1 : x / (2 * Q) < P := Int.ediv_lt_of_lt_mul (by omega) (by rw [Int.mul_comm 2 Q, ← Int.mul_assoc, hPQ]; exact h1)
 have hr0 : 0 ≤ x % (2 * Q) := Int.emod_nonneg _ (by omega)
 have hr1 : x % (2 * Q) < 2 * Q := Int.emod_lt_of_pos _ (by omega)
 have hb0 : 0 ≤ x % (2 * Q) / Q := Int.ediv_nonneg hr0 (by omega)
 have hb1 : x % (2 * Q) / Q < 2 := Int.ediv_lt_of_lt_mul hQ hr1
 have hl0 : 0 ≤ x % (2 * Q) % Q := Int.emod_nonneg _ (by omega)
 have hl1 : x % (2 * Q) % Q < Q := Int.emod_lt_of_pos _ hQ
 have ex : x = x / (2 * Q) * (2 * Q) + x % (2 * Q) / Q * Q + x % (2 * Q) % Q := by
  have a1 := Int.mul_ediv_add_emod x (2 * Q)
  have a2 := Int.mul_ediv_add_emod (x % (2 * Q)) Q
  rw [Int.mul_comm (x / (2 * Q)), Int.mul_comm (x % (2 * Q) / Q), Int.add_assoc, a2, a1]
 generalize x / (2 * Q) = H at *
 generalize x % (2 * Q) / Q = b at *
 generalize x % (2 * Q) % Q = L at *
 obtain ⟨f1, f2, f3, f4, f5, f6⟩ := rotl_step P Q H b L hPQ hQ hP hH0 hH1 hb0 (by omega) hl0 hl1
 subst ex
 rw [f1, f3, f4, f5, f6]
 omega
theorem Rotate_any (x : Int) (k : Nat) (w : World) (h0 : 0 ≤ x) (h1 : x < 4294967296) (h3 : k < 32) : Calls Tryz.prog 266 #[.int .u32 x, .int .i64 (k : Int)] w fun e w' => e = .returned (.int .u32 (rotl x k)) ∧ w = w' := by
 have hand : bits .and .u64 (k : Int) 31 = (k : Int) := by
  have := u64_and_nat k 31 (by omega) (by decide)
  rw [nat_mask5, Nat.mod_eq_of_lt h3] at this
  exact this
 obtain ⟨X, rfl⟩ := Int.eq_ofNat_of_zero_le h0
 have E := hU (rot_join X k (by omega) h3)
 go_enter Tryz.func266, Tryz.ntmps266
 go_wp2_with fail
 go_ret
 exact ⟨ret_int E.out, rfl⟩
theorem Turn_any (x : Int) (n : Int) (w : World) (h0 : 0 ≤ x) (h1 : x < 4294967296) (h2 : 0 ≤ n) (h3 : n < 32) : Calls Tryz.prog 260 #[.int .u32 x, .int .i64 n] w fun e w' => e = .returned (.int .u32 (rotl x n.toNat)) ∧ w = w' := by
 obtain ⟨k, rfl⟩ := Int.eq_ofNat_of_zero_le h2
 rw [Int.toNat_natCast]
 have hk : k < 32 := by omega
 go_enter Tryz.func260, Tryz.ntmps260
 go_wp2_with fail
 rw [show (k : Int) % 32 = (k : Int) by omega]
 refine (Rotate_any x k _ h0 h1 hk).mono ?_
 rintro e w1 ⟨rfl, rfl⟩
 go_wp2_with fail
 go_ret
 exact ⟨rfl, rfl⟩
theorem specTurn_any (x : Int) (n : Int) (w : World) (h0 : 0 ≤ x) (h1 : x < 4294967296) (h2 : 0 ≤ n) (h3 : n < 32) : Calls Tryz.prog 256 #[.int .u32 x, .int .i64 n] w fun e w' => e = .returned (.int .u32 (rotl x n.toNat)) ∧ w = w' := by
 obtain ⟨m, rfl⟩ := Int.eq_ofNat_of_zero_le h2
 rw [Int.toNat_natCast]
 have hm : m < 32 := by omega
 have Z := hU (rotl_zero x h0 h1)
 have hr : (m : Int) % 32 = (m : Int) := by omega
 have hr2 : m % 32 = m := by omega
 have hx0 := hU h0
 have hx1 := hU h1
 go_enter Tryz.func256, Tryz.ntmps256
 go_wp2_with fail
 go_loop [0, 6, 7] (fun y i _ => ∃ (k : Nat) (q : Int), k ≤ m ∧ i = .int .i64 k ∧ y = .int .u32 q ∧ 0 ≤ q ∧ q < 4294967296 ∧ Hid (q = rotl x k)) (fun _ i _ => m - (intOf i).toNat)
 case atStart => exact ⟨0, x, by omega, rfl, rfl, h0, h1, hU Z.out.symm⟩
 case round =>
  obtain ⟨k, q, hk, rfl, rfl, q0, q1, hq⟩ := hrel
  by_cases hlt : k < m
  · obtain ⟨Q, rfl⟩ := Int.eq_ofNat_of_zero_le q0
    have hj := rot_join Q 1 (by omega) (by decide)
    have hs := rotl_succ x k hx0.out hx1.out (by omega)
    have hg := rotl_rng (Q : Int) 1 q0 q1 (by decide)
    have e31 : (2 : Int) ^ (32 - 1) = 2147483648 := by decide
    rw [e31, Int.pow_succ, Int.pow_zero, Int.one_mul] at hj
    rw [hq.out, ] at hg
    rw [← hq.out] at hs
    obtain ⟨hg0, hg1⟩ := hg
    rw [← hq.out] at hg0 hg1
    obtain ⟨y, hy⟩ : ∃ y, y = rotl (Q : Int) 1 := ⟨_, rfl⟩
    rw [← hy] at hj hs hg0 hg1
    have Hs := hU hs
    clear hy hs
    go_wp2_with fail
    go_round
    case rel => exact ⟨k + 1, y, by omega, by go_num, rfl, hg0, hg1, Hs⟩
    case measure => simp [intOf]; omega
  · obtain rfl : k = m := by omega
    go_wp2_with fail
    go_ret
    exact ⟨ret_int hq.out, rfl⟩
def W32 (l : List Int) : Prop := ∀ x ∈ l, 0 ≤ x ∧ x < 4294967296
def gw (l : List Int) (i : Nat) : Int := l.getD i 0
theorem gw_rng {l : List Int} (h : W32 l) (i : Nat) : 0 ≤ gw l i ∧ gw l i < 4294967296 := by
 unfold gw
 rw [List.getD_eq_getElem?_getD]
 cases hi : l[i]? with
 | none => simp
 | some x => exact h x (List.mem_of_getElem? hi)
theorem gw_get {l : List Int} {i : Nat} (h : i < l.length) : l[i]? = some (gw l i) := by
 unfold gw
 rw [List.getD_eq_getElem?_getD, List.getElem?_eq_getElem h]; rfl
theorem gw_set_same {l : List Int} {i : Nat} (h : i < l.length) (x : Int) : gw (l.set i x) i = x := by
 simp [gw, List.getD_eq_getElem?_getD, h]
theorem gw_set_other {l : List Int} {i j : Nat} (h : i ≠ j) (x : Int) : gw (l.set i x) j = gw l j := by
 simp [gw, List.getD_eq_getElem?_getD, List.getElem?_set_ne h]
theorem W32.set {l : List Int} (h : W32 l) (i : Nat) {x : Int} (hx : 0 ≤ x ∧ x < 4294967296) : W32 (l.set i x) := by
 intro y hy
 rcases List.mem_or_eq_of_mem_set hy with h1 | rfl
 · exact h y h1
 · exact hx
theorem xor_rng (x y : Int) (hx : 0 ≤ x ∧ x < 4294967296) (hy : 0 ≤ y ∧ y < 4294967296) : 0 ≤ bits .xor .u32 x y ∧ bits .xor .u32 x y < 4294967296 := by
 obtain ⟨X, rfl⟩ := Int.eq_ofNat_of_zero_le hx.1
 obtain ⟨Y, rfl⟩ := Int.eq_ofNat_of_zero_le hy.1
 rw [u32_xor_nat _ _ (by omega) (by omega)]
 have := Nat.xor_lt_two_pow (n := 32) (x := X) (y := Y) (by omega) (by omega)
 omega
def stepSum (b v : List Int) (r i : Nat) : Int := (gw v i + hconst ((8 * r + i : Nat) : Int) + bits .xor .u32 (gw v ((i + 1) % 8)) (gw b ((8 * r + 5 * i + r / 2) % 16))) % 4294967296
def stepVal (b v : List Int) (r i : Nat) : Int := bits .xor .u32 (rotl (stepSum b v r i) (5 + (i + 3 * r) % 23)) (gw v ((i + 3) % 8))
def stepW (b v : List Int) (r i : Nat) : List Int := v.set i (stepVal b v r i)
theorem stepSum_rng (b v : List Int) (r i : Nat) : 0 ≤ stepSum b v r i ∧ stepSum b v r i < 4294967296 := by unfold stepSum; omega
theorem stepVal_rng (b : List Int) {v : List Int} (r i : Nat) (hv : W32 v) : 0 ≤ stepVal b v r i ∧ stepVal b v r i < 4294967296 := by
 obtain ⟨h0, h1⟩ := stepSum_rng b v r i
 exact xor_rng _ _ (rotl_rng _ _ h0 h1 (by omega)) (gw_rng hv _)
theorem stepW_len (b v : List Int) (r i : Nat) : (stepW b v r i).length = v.length := by simp [stepW]
theorem stepW_32 (b : List Int) {v : List Int} (r i : Nat) (hv : W32 v) : W32 (stepW b v r i) := hv.set i (stepVal_rng b r i hv)
def mixN (b v : List Int) : Nat → List Int
 | 0 => v
 | n + 1 => stepW b (mixN b v n) (n / 8) (n % 8)
theorem mixN_len (b v : List Int) : ∀ n, (mixN b v n).length = v.length
 | 0 => rfl
 | n + 1 => by rw [mixN, stepW_len, mixN_len b v n]
theorem mixN_32 (b : List Int) {v : List Int} (hv : W32 v) : ∀ n, W32 (mixN b v n)
 | 0 => hv
 | n + 1 => stepW_32 b _ _ (mixN_32 b hv n)
theorem mixN_step (b v : List Int) (r i : Nat) (hi : i < 8) : stepW b (mixN b v (8 * r + i)) r i = mixN b v (8 * r + (i + 1)) := by
 rw [show 8 * r + (i + 1) = (8 * r + i) + 1 by omega, mixN, show (8 * r + i) / 8 = r by omega, show (8 * r + i) % 8 = i by omega]
def addW (s v : List Int) : Nat → List Int
 | 0 => v
 | k + 1 => (addW s v k).set k ((gw v k + gw s k) % 4294967296)
theorem addW_len (s v : List Int) : ∀ k, (addW s v k).length = v.length
 | 0 => rfl
 | k + 1 => by rw [addW, List.length_set, addW_len s v k]
theorem addW_32 (s : List Int) {v : List Int} (hv : W32 v) : ∀ k, W32 (addW s v k)
 | 0 => hv
 | k + 1 => (addW_32 s hv k).set k (by omega)
theorem addW_far (s v : List Int) : ∀ k j, k ≤ j → gw (addW s v k) j = gw v j
 | 0, j, _ => rfl
 | k + 1, j, h => by rw [addW, gw_set_other (by omega), addW_far s v k j (by omega)]
def mixW (s b : List Int) : List Int := addW s (mixN b s 96) 8
theorem mixW_len (s b : List Int) : (mixW s b).length = s.length := by rw [mixW, addW_len, mixN_len]
theorem mixW_32 {s : List Int} (b : List Int) (hs : W32 s) : W32 (mixW s b) := addW_32 _ (mixN_32 b hs 96) 8
def blockW (T : ByteArray) (a : Nat) : List Int := (List.range 16).map fun i => wordI T (a + 4 * i)
theorem blockW_len (T : ByteArray) (a : Nat) : (blockW T a).length = 16 := by simp [blockW]
theorem blockW_32 (T : ByteArray) (a : Nat) : W32 (blockW T a) := by
 intro x hx
 obtain ⟨i, _, rfl⟩ := List.mem_map.1 hx
 exact wordI_rng _ _
def mixT (T : ByteArray) (s : List Int) : Nat → List Int
 | 0 => s
 | k + 1 => mixW (mixT T s k) (blockW T (64 * k))
theorem mixT_len (T : ByteArray) (s : List Int) : ∀ k, (mixT T s k).length = s.length
 | 0 => rfl
 | k + 1 => by rw [mixT, mixW_len, mixT_len T s k]
theorem mixT_32 (T : ByteArray) {s : List Int} (hs : W32 s) : ∀ k, W32 (mixT T s k)
 | 0 => hs
 | k + 1 => mixW_32 _ (mixT_32 T hs k)
def startAt (tag : Int) (i : Nat) : Int := (tag + 1) * (2 * (i : Int) + 3) % 4294967296 * 2246822519 % 4294967296
def startW (tag : Int) : List Int := (List.range 8).map fun i => startAt tag i
theorem startW_len (tag : Int) : (startW tag).length = 8 := by simp [startW]
theorem startW_32 (tag : Int) : W32 (startW tag) := by
 intro x hx
 obtain ⟨i, _, rfl⟩ := List.mem_map.1 hx
 unfold startAt
 omega
def textW : List Int → ByteArray
 | [] => ⟨#[]⟩
 | x :: l => wtext x ++ textW l
theorem textW_size : ∀ l, (textW l).size = 4 * l.length
 | [] => rfl
 | x :: l => by rw [textW, ByteArray.size_append, wtext_size, textW_size l, List.length_cons]; omega
theorem textW_snoc : ∀ (l : List Int) (x : Int), textW (l ++ [x]) = textW l ++ wtext x
 | [], x => by show wtext x ++ ⟨#[]⟩ = _; rw [append_nil]; exact (ByteArray.empty_append).symm
 | y :: l, x => by rw [List.cons_append, textW, textW_snoc l x, textW, ByteArray.append_assoc]
def zeroB (n : Nat) : ByteArray := ⟨(List.replicate n (0 : UInt8)).toArray⟩
theorem zeroB_size (n : Nat) : (zeroB n).size = n := by simp [zeroB, ByteArray.size]
def padZ (n : Nat) : Nat := (119 - n % 64) % 64
def padT (n : Nat) : ByteArray := ⟨#[128]⟩ ++ zeroB (padZ n) ++ wtext 0 ++ wtext n
theorem padT_size (n : Nat) : (padT n).size = padZ n + 9 := by
 simp only [padT, ByteArray.size_append, zeroB_size, wtext_size]
 have : (⟨#[128]⟩ : ByteArray).size = 1 := rfl
 omega
def digestT (width : Nat) (tag : Int) (T : ByteArray) : ByteArray := (textW (mixT (T ++ padT T.size) (startW tag) ((T ++ padT T.size).size / 64))).extract 0 width
def digestOk (width tag : Int) (T : ByteArray) : Bool := inR width 1 32 && inR tag 0 255 && decide (T.size ≤ 4000)
def digest (width tag : Int) (T : ByteArray) : ByteArray := if digestOk width tag T then digestT width.toNat tag T else ⟨#[]⟩
theorem digest_size {width tag : Int} {T : ByteArray} (h : digestOk width tag T = true) : (digest width tag T).size = width.toNat := by
 simp only [digest, h, if_true, digestT]
 rw [ByteArray.size_extract, textW_size, mixT_len, startW_len]
 simp only [digestOk, Bool.and_eq_true] at h
 have := inR_true h.1.1
 omega
end Go.Proofs.YtlgdghpnfclgpaaGreat
