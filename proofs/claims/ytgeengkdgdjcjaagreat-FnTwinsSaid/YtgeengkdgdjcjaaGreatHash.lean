/-
  Turns; Hash: No condition.
-/
import Derived.Test.YtgeengkdgdjcjaaGreatWords
import Derived.Laws.ShiftsVarLaws
namespace Go.Proofs.YtgeengkdgdjcjaaGreat
set_option maxHeartbeats 1000000
set_option linter.unusedSimpArgs false
open Go.RowKit
set_option linter.unusedVariables false
def rotl (x : Int) (k : Nat) : Int := x * 2 ^ k % 4294967296 + x / 2 ^ (32 - k)
theorem rot_join (X k : Nat) (hX : X < 4294967296) (hk : k < 32) : bits .or .u32 ((X : Int) * 2 ^ k % 4294967296) ((X : Int) / 2 ^ (32 - k)) = rotl X k := by
 have hp : 2 ^ (32 - k) * 2 ^ k = 4294967296 := by rw [← Nat.pow_add, show 32 - k + k = 32 by omega]
 have e1 : (X : Int) * 2 ^ k % 4294967296 = ((X * 2 ^ k % 4294967296 : Nat) : Int) := by simp
 have e2 : (X : Int) / 2 ^ (32 - k) = ((X / 2 ^ (32 - k) : Nat) : Int) := by simp
 have hd : X * 2 ^ k % 4294967296 % 2 ^ k = 0 := by
  rw [← hp, Nat.mod_mul_left_mod]
  exact Nat.mul_mod_left _ _
 have hl : X / 2 ^ (32 - k) < 2 ^ k := Nat.div_lt_of_lt_mul (by rw [hp]; exact hX)
 have hq : X / 2 ^ (32 - k) ≤ X := Nat.div_le_self _ _
 unfold rotl
 rw [e1, e2, or_join _ _ (2 ^ k) k rfl hd hl (Nat.mod_lt _ (by decide)) (by omega)]
 omega
theorem rotl_rng (x : Int) (k : Nat) (h0 : 0 ≤ x) (h1 : x < 4294967296) (hk : k < 32) : 0 ≤ rotl x k ∧ rotl x k < 4294967296 := by
 obtain ⟨X, rfl⟩ := Int.eq_ofNat_of_zero_le h0
 rw [← rot_join X k (by omega) hk]
 have hX : X < 4294967296 := by omega
 have e1 : (X : Int) * 2 ^ k % 4294967296 = ((X * 2 ^ k % 4294967296 : Nat) : Int) := by simp
 have e2 : (X : Int) / 2 ^ (32 - k) = ((X / 2 ^ (32 - k) : Nat) : Int) := by simp
 have hq : X / 2 ^ (32 - k) ≤ X := Nat.div_le_self _ _
 rw [e1, e2, u32_or_nat _ _ (Nat.mod_lt _ (by decide)) (by omega)]
 have := Nat.or_lt_two_pow (n := 32) (x := X * 2 ^ k % 4294967296) (y := X / 2 ^ (32 - k)) (Nat.mod_lt _ (by decide)) (by omega)
 omega
theorem rotl_zero (x : Int) (h0 : 0 ≤ x) (h1 : x < 4294967296) : rotl x 0 = x := by
 simp only [rotl, Int.pow_zero, Int.mul_one, Nat.sub_zero]
 omega
theorem rotl_step (P Q : Int) (H b L : Int) (hPQ : P * Q = 2147483648) (hQ : 0 < Q) (hP : 0 < P) (h0 : 0 ≤ H) (h1 : H < P) (b0 : 0 ≤ b) (b1 : b ≤ 1) (l0 : 0 ≤ L) (l1 : L < Q) :
 (H * (2 * Q) + b * Q + L) * P % 4294967296 = b * 2147483648 + L * P ∧ (H * (2 * Q) + b * Q + L) / (2 * Q) = H ∧ (b * 2147483648 + L * P + H) * 2 % 4294967296 = (L * P + H) * 2 ∧ (b * 2147483648 + L * P + H) / 2147483648 = b ∧
 (H * (2 * Q) + b * Q + L) * (P * 2) % 4294967296 = L * P * 2 ∧ (H * (2 * Q) + b * Q + L) / Q = 2 * H + b := by
 have hb : b = 0 ∨ b = 1 := by omega
 have hLP0 : 0 ≤ L * P := Int.mul_nonneg l0 (Int.le_of_lt hP)
 have hLP : L * P + P ≤ 2147483648 := by
  have : (L + 1) * P ≤ Q * P := Int.mul_le_mul_of_nonneg_right (by omega) (Int.le_of_lt hP)
  rw [Int.add_mul, Int.one_mul, Int.mul_comm Q P, hPQ] at this
  exact this
 have e1 : (H * (2 * Q) + b * Q + L) * P = H * 4294967296 + b * 2147483648 + L * P := by
  rw [Int.add_mul, Int.add_mul, Int.mul_assoc H, Int.mul_assoc 2, Int.mul_comm Q P, hPQ, Int.mul_assoc b, Int.mul_comm Q P, hPQ]; omega
 have e2 : (H * (2 * Q) + b * Q + L) * (P * 2) = (H * 4294967296 + b * 2147483648 + L * P) * 2 := by rw [← Int.mul_assoc, e1]
 have e3 : (H * (2 * Q) + b * Q + L) / Q = 2 * H + b := by
  rw [show H * (2 * Q) + b * Q + L = L + (2 * H + b) * Q by rw [Int.add_mul, ← Int.mul_assoc, Int.mul_comm H 2]; omega, Int.add_mul_ediv_right _ _ (by omega), Int.ediv_eq_zero_of_lt l0 l1]; omega
 have e4 : (H * (2 * Q) + b * Q + L) / (2 * Q) = H := by
  have hbQ : 0 ≤ b * Q + L ∧ b * Q + L < 2 * Q := by rcases hb with rfl | rfl <;> omega
  rw [show H * (2 * Q) + b * Q + L = (b * Q + L) + H * (2 * Q) by omega, Int.add_mul_ediv_right _ _ (by omega), Int.ediv_eq_zero_of_lt hbQ.1 hbQ.2]; omega
 generalize L * P = Z at *
 refine ⟨?_, e4, ?_, ?_, ?_, e3⟩
 · rw [e1]; rcases hb with rfl | rfl <;> omega
 · rcases hb with rfl | rfl <;> omega
 · rcases hb with rfl | rfl <;> omega
 · rw [e2]; rcases hb with rfl | rfl <;> omega
theorem rotl_succ (x : Int) (k : Nat) (h0 : 0 ≤ x) (h1 : x < 4294967296) (hk : k < 31) : rotl (rotl x k) 1 = rotl x (k + 1) := by
 have hPQ : (2 : Int) ^ k * 2 ^ (31 - k) = 2147483648 := by rw [← Int.pow_add, show k + (31 - k) = 31 by omega]; rfl
 have hQ : (0 : Int) < 2 ^ (31 - k) := Int.pow_pos (by decide)
 have hP : (0 : Int) < 2 ^ k := Int.pow_pos (by decide)
 have hQ2 : (2 : Int) ^ (32 - k) = 2 * 2 ^ (31 - k) := by rw [show 32 - k = (31 - k) + 1 by omega, Int.pow_succ, Int.mul_comm]
 have hQ1 : (2 : Int) ^ (32 - (k + 1)) = 2 ^ (31 - k) := by rw [show 32 - (k + 1) = 31 - k by omega]
 have hP1 : (2 : Int) ^ (k + 1) = 2 ^ k * 2 := Int.pow_succ _ _
 unfold rotl
 rw [hQ2, hQ1, hP1, Int.pow_succ, Int.pow_zero, Int.one_mul, show (2 : Int) ^ (32 - 1) = 2147483648 by decide]
 generalize (2 : Int) ^ k = P at *
 generalize (2 : Int) ^ (31 - k) = Q at *
 have hH0 : 0 ≤ x / (2 * Q) := Int.ediv_nonneg h0 (by omega)
 have hH1 : x / (2 * Q) < P := Int.ediv_lt_of_lt_mul (by omega) (by rw [Int.mul_comm 2 Q, ← Int.mul_assoc, hPQ]; exact h1)
 have hr0 : 0 ≤ x % (2 * Q) := Int.emod_nonneg _ (by omega)
 have hr1 : x % (2 * Q) < 2 * Q := Int.emod_lt_of_pos _ (by omega)
 have hb0 : 0 ≤ x % (2 * Q) / Q := Int.ediv_nonneg hr0 (by omega)
 have hb1 : x % (2 * Q) / Q < 2 := Int.ediv_lt_of_lt_mul hQ hr1
 have hl0 : 0 ≤ x % (2 * Q) % Q := Int.emod_nonneg _ (by omega)
 have hl1 : x % (2 * Q) % Q < Q := Int.emod_lt_of_pos _ hQ
 have ex : x = x / (2 * Q) * (2 * Q) + x % (2 * Q) / Q * Q + x % (2 * Q) % Q := by
  have a1 := Int.mul_ediv_add_emod x (2 * Q)
  have a2 := Int.mul_ediv_add_emod (x % (2 * Q)) Q
  rw [Int.mul_comm (x / (2 * Q)), Int.mul_comm (x % (2 * Q) / Q), Int.add_assoc, a2, a1]
 generalize x / (2 * Q) = H at *
 generalize x % (2 * Q) / Q = b at *
 generalize x % (2 * Q) % Q = L at *
 obtain ⟨f1, f2, f3, f4, f5, f6⟩ := rotl_step P Q H b L hPQ hQ hP hH0 hH1 hb0 (by omega) hl0 hl1
 subst ex
 rw [f1, f3, f4, f5, f6]
 omega
theorem Rotate_any (x : Int) (k : Nat) (w : World) (h0 : 0 ≤ x) (h1 : x < 4294967296) (h3 : k < 32) : Calls Tryz.prog 285 #[.int .u32 x, .int .i64 (k : Int)] w fun e w' => e = .returned (.int .u32 (rotl x k)) ∧ w = w' := by
 have hand : bits .and .u64 (k : Int) 31 = (k : Int) := by
  have := u64_and_nat k 31 (by omega) (by decide)
  rw [nat_mask5, Nat.mod_eq_of_lt h3] at this
  exact this
 obtain ⟨X, rfl⟩ := Int.eq_ofNat_of_zero_le h0
 have E := hU (rot_join X k (by omega) h3)
 go_enter Tryz.func285, Tryz.ntmps285
 go_wp2_with fail
 go_ret
 exact ⟨ret_int E.out, rfl⟩
theorem Turn_any (x : Int) (n : Int) (w : World) (h0 : 0 ≤ x) (h1 : x < 4294967296) (h2 : 0 ≤ n) (h3 : n < 32) : Calls Tryz.prog 268 #[.int .u32 x, .int .i64 n] w fun e w' => e = .returned (.int .u32 (rotl x n.toNat)) ∧ w = w' := by
 obtain ⟨k, rfl⟩ := Int.eq_ofNat_of_zero_le h2
 rw [Int.toNat_natCast]
 have hk : k < 32 := by omega
 go_enter Tryz.func268, Tryz.ntmps268
 go_wp2_with fail
 rw [show (k : Int) % 32 = (k : Int) by omega]
 refine (Rotate_any x k _ h0 h1 hk).mono ?_
 rintro e w1 ⟨rfl, rfl⟩
 go_wp2_with fail
 go_ret
 exact ⟨rfl, rfl⟩
theorem specTurn_any (x : Int) (n : Int) (w : World) (h0 : 0 ≤ x) (h1 : x < 4294967296) (h2 : 0 ≤ n) (h3 : n < 32) : Calls Tryz.prog 275 #[.int .u32 x, .int .i64 n] w fun e w' => e = .returned (.int .u32 (rotl x n.toNat)) ∧ w = w' := by
 obtain ⟨m, rfl⟩ := Int.eq_ofNat_of_zero_le h2
 rw [Int.toNat_natCast]
 have hm : m < 32 := by omega
 have Z := hU (rotl_zero x h0 h1)
 have hr : (m : Int) % 32 = (m : Int) := by omega
 have hr2 : m % 32 = m := by omega
 have hx0 := hU h0
 have hx1 := hU h1
 go_enter Tryz.func275, Tryz.ntmps275
 go_wp2_with fail
 go_loop [0, 6, 7] (fun y i _ => ∃ (k : Nat) (q : Int), k ≤ m ∧ i = .int .i64 k ∧ y = .int .u32 q ∧ 0 ≤ q ∧ q < 4294967296 ∧ Hid (q = rotl x k)) (fun _ i _ => m - (intOf i).toNat)
 case atStart => exact ⟨0, x, by omega, rfl, rfl, h0, h1, hU Z.out.symm⟩
 case round =>
  obtain ⟨k, q, hk, rfl, rfl, q0, q1, hq⟩ := hrel
  by_cases hlt : k < m
  · obtain ⟨Q, rfl⟩ := Int.eq_ofNat_of_zero_le q0
    have hj := rot_join Q 1 (by omega) (by decide)
    have hs := rotl_succ x k hx0.out hx1.out (by omega)
    have hg := rotl_rng (Q : Int) 1 q0 q1 (by decide)
    have e31 : (2 : Int) ^ (32 - 1) = 2147483648 := by decide
    rw [e31, Int.pow_succ, Int.pow_zero, Int.one_mul] at hj
    rw [hq.out, ] at hg
    rw [← hq.out] at hs
    obtain ⟨hg0, hg1⟩ := hg
    rw [← hq.out] at hg0 hg1
    obtain ⟨y, hy⟩ : ∃ y, y = rotl (Q : Int) 1 := ⟨_, rfl⟩
    rw [← hy] at hj hs hg0 hg1
    have Hs := hU hs
    clear hy hs
    go_wp2_with fail
    go_round
    case rel => exact ⟨k + 1, y, by omega, by go_num, rfl, hg0, hg1, Hs⟩
    case measure => simp [intOf]; omega
  · obtain rfl : k = m := by omega
    go_wp2_with fail
    go_ret
    exact ⟨ret_int hq.out, rfl⟩
def W32 (l : List Int) : Prop := ∀ x ∈ l, 0 ≤ x ∧ x < 4294967296
def gw (l : List Int) (i : Nat) : Int := l.getD i 0
theorem gw_rng {l : List Int} (h : W32 l) (i : Nat) : 0 ≤ gw l i ∧ gw l i < 4294967296 := by
 unfold gw
 rw [List.getD_eq_getElem?_getD]
 cases hi : l[i]? with
 | none => simp
 | some x => exact h x (List.mem_of_getElem? hi)
theorem gw_get {l : List Int} {i : Nat} (h : i < l.length) : l[i]? = some (gw l i) := by
 unfold gw
 rw [List.getD_eq_getElem?_getD, List.getElem?_eq_getElem h]; rfl
theorem gw_set_same {l : List Int} {i : Nat} (h : i < l.length) (x : Int) : gw (l.set i x) i = x := by
 simp [gw, List.getD_eq_getElem?_getD, h]
theorem gw_set_other {l : List Int} {i j : Nat} (h : i ≠ j) (x : Int) : gw (l.set i x) j = gw l j := by
 simp [gw, List.getD_eq_getElem?_getD, List.getElem?_set_ne h]
theorem W32.set {l : List Int} (h : W32 l) (i : Nat) {x : Int} (hx : 0 ≤ x ∧ x < 4294967296) : W32 (l.set i x) := by
 intro y hy
 rcases List.mem_or_eq_of_mem_set hy with h1 | rfl
 · exact h y h1
 · exact hx
theorem xor_rng (x y : Int) (hx : 0 ≤ x ∧ x < 4294967296) (hy : 0 ≤ y ∧ y < 4294967296) : 0 ≤ bits .xor .u32 x y ∧ bits .xor .u32 x y < 4294967296 := by
 obtain ⟨X, rfl⟩ := Int.eq_ofNat_of_zero_le hx.1
 obtain ⟨Y, rfl⟩ := Int.eq_ofNat_of_zero_le hy.1
 rw [u32_xor_nat _ _ (by omega) (by omega)]
 have := Nat.xor_lt_two_pow (n := 32) (x := X) (y := Y) (by omega) (by omega)
 omega
def stepSum (b v : List Int) (r i : Nat) : Int := (gw v i + hconst ((8 * r + i : Nat) : Int) + bits .xor .u32 (gw v ((i + 1) % 8)) (gw b ((8 * r + 5 * i + r / 2) % 16))) % 4294967296
def stepVal (b v : List Int) (r i : Nat) : Int := bits .xor .u32 (rotl (stepSum b v r i) (5 + (i + 3 * r) % 23)) (gw v ((i + 3) % 8))
def stepW (b v : List Int) (r i : Nat) : List Int := v.set i (stepVal b v r i)
theorem stepSum_rng (b v : List Int) (r i : Nat) : 0 ≤ stepSum b v r i ∧ stepSum b v r i < 4294967296 := by unfold stepSum; omega
theorem stepVal_rng (b : List Int) {v : List Int} (r i : Nat) (hv : W32 v) : 0 ≤ stepVal b v r i ∧ stepVal b v r i < 4294967296 := by
 obtain ⟨h0, h1⟩ := stepSum_rng b v r i
 exact xor_rng _ _ (rotl_rng _ _ h0 h1 (by omega)) (gw_rng hv _)
theorem stepW_len (b v : List Int) (r i : Nat) : (stepW b v r i).length = v.length := by simp [stepW]
theorem stepW_32 (b : List Int) {v : List Int} (r i : Nat) (hv : W32 v) : W32 (stepW b v r i) := hv.set i (stepVal_rng b r i hv)
def mixN (b v : List Int) : Nat → List Int
 | 0 => v
 | n + 1 => stepW b (mixN b v n) (n / 8) (n % 8)
theorem mixN_len (b v : List Int) : ∀ n, (mixN b v n).length = v.length
 | 0 => rfl
 | n + 1 => by rw [mixN, stepW_len, mixN_len b v n]
theorem mixN_32 (b : List Int) {v : List Int} (hv : W32 v) : ∀ n, W32 (mixN b v n)
 | 0 => hv
 | n + 1 => stepW_32 b _ _ (mixN_32 b hv n)
theorem mixN_step (b v : List Int) (r i : Nat) (hi : i < 8) : stepW b (mixN b v (8 * r + i)) r i = mixN b v (8 * r + (i + 1)) := by
 rw [show 8 * r + (i + 1) = (8 * r + i) + 1 by omega, mixN, show (8 * r + i) / 8 = r by omega, show (8 * r + i) % 8 = i by omega]
def addW (s v : List Int) : Nat → List Int
 | 0 => v
 | k + 1 => (addW s v k).set k ((gw v k + gw s k) % 4294967296)
theorem addW_len (s v : List Int) : ∀ k, (addW s v k).length = v.length
 | 0 => rfl
 | k + 1 => by rw [addW, List.length_set, addW_len s v k]
theorem addW_32 (s : List Int) {v : List Int} (hv : W32 v) : ∀ k, W32 (addW s v k)
 | 0 => hv
 | k + 1 => (addW_32 s hv k).set k (by omega)
theorem addW_far (s v : List Int) : ∀ k j, k ≤ j → gw (addW s v k) j = gw v j
 | 0, j, _ => rfl
 | k + 1, j, h => by rw [addW, gw_set_other (by omega), addW_far s v k j (by omega)]
def mixW (s b : List Int) : List Int := addW s (mixN b s 96) 8
theorem mixW_len (s b : List Int) : (mixW s b).length = s.length := by rw [mixW, addW_len, mixN_len]
theorem mixW_32 {s : List Int} (b : List Int) (hs : W32 s) : W32 (mixW s b) := addW_32 _ (mixN_32 b hs 96) 8
def blockW (T : ByteArray) (a : Nat) : List Int := (List.range 16).map fun i => wordI T (a + 4 * i)
theorem blockW_len (T : ByteArray) (a : Nat) : (blockW T a).length = 16 := by simp [blockW]
theorem blockW_32 (T : ByteArray) (a : Nat) : W32 (blockW T a) := by
 intro x hx
 obtain ⟨i, _, rfl⟩ := List.mem_map.1 hx
 exact wordI_rng _ _
def mixT (T : ByteArray) (s : List Int) : Nat → List Int
 | 0 => s
 | k + 1 => mixW (mixT T s k) (blockW T (64 * k))
theorem mixT_len (T : ByteArray) (s : List Int) : ∀ k, (mixT T s k).length = s.length
 | 0 => rfl
 | k + 1 => by rw [mixT, mixW_len, mixT_len T s k]
theorem mixT_32 (T : ByteArray) {s : List Int} (hs : W32 s) : ∀ k, W32 (mixT T s k)
 | 0 => hs
 | k + 1 => mixW_32 _ (mixT_32 T hs k)
def startAt (tag : Int) (i : Nat) : Int := (tag + 1) * (2 * (i : Int) + 3) % 4294967296 * 2246822519 % 4294967296
def startW (tag : Int) : List Int := (List.range 8).map fun i => startAt tag i
theorem startW_len (tag : Int) : (startW tag).length = 8 := by simp [startW]
theorem startW_32 (tag : Int) : W32 (startW tag) := by
 intro x hx
 obtain ⟨i, _, rfl⟩ := List.mem_map.1 hx
 unfold startAt
 omega
def textW : List Int → ByteArray
 | [] => ⟨#[]⟩
 | x :: l => wtext x ++ textW l
theorem textW_size : ∀ l, (textW l).size = 4 * l.length
 | [] => rfl
 | x :: l => by rw [textW, ByteArray.size_append, wtext_size, textW_size l, List.length_cons]; omega
theorem textW_snoc : ∀ (l : List Int) (x : Int), textW (l ++ [x]) = textW l ++ wtext x
 | [], x => by show wtext x ++ ⟨#[]⟩ = _; rw [append_nil]; exact (ByteArray.empty_append).symm
 | y :: l, x => by rw [List.cons_append, textW, textW_snoc l x, textW, ByteArray.append_assoc]
def zeroB (n : Nat) : ByteArray := ⟨(List.replicate n (0 : UInt8)).toArray⟩
theorem zeroB_size (n : Nat) : (zeroB n).size = n := by simp [zeroB, ByteArray.size]
def padZ (n : Nat) : Nat := (119 - n % 64) % 64
def padT (n : Nat) : ByteArray := ⟨#[128]⟩ ++ zeroB (padZ n) ++ wtext 0 ++ wtext n
theorem padT_size (n : Nat) : (padT n).size = padZ n + 9 := by
 simp only [padT, ByteArray.size_append, zeroB_size, wtext_size]
 have : (⟨#[128]⟩ : ByteArray).size = 1 := rfl
 omega
def digestT (width : Nat) (tag : Int) (T : ByteArray) : ByteArray := (textW (mixT (T ++ padT T.size) (startW tag) ((T ++ padT T.size).size / 64))).extract 0 width
def digestOk (width tag : Int) (T : ByteArray) : Bool := inR width 1 32 && inR tag 0 255 && decide (T.size ≤ 4000)
def digest (width tag : Int) (T : ByteArray) : ByteArray := if digestOk width tag T then digestT width.toNat tag T else ⟨#[]⟩
theorem digest_size {width tag : Int} {T : ByteArray} (h : digestOk width tag T = true) : (digest width tag T).size = width.toNat := by
 simp only [digest, h, if_true, digestT]
 rw [ByteArray.size_extract, textW_size, mixT_len, startW_len]
 simp only [digestOk, Bool.and_eq_true] at h
 have := inR_true h.1.1
 omega
end Go.Proofs.YtgeengkdgdjcjaaGreat
