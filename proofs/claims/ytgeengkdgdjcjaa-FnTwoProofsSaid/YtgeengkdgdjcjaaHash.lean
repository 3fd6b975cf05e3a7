/-
  Hash: No condition.
-/
import Derived.Test.YtgeengkdgdjcjaaTurns
namespace Go.Proofs.Ytgeengkdgdjcjaa
set_option linter.unusedSimpArgs false
open Go.RowKit
set_option linter.unusedVariables false
def W32 (l : List Int) : Prop := ∀ x ∈ l, 0 ≤ x ∧ x < 4294967296
def gw (l : List Int) (i : Nat) : Int := l.getD i 0
theorem gw_rng {l : List Int} (h : W32 l) (i : Nat) : 0 ≤ gw l i ∧ gw l i < 4294967296 := by
 unfold gw
 rw [List.getD_eq_getElem?_getD]
 cases hi : l[i]? with
 | none => simp
 | some x => exact h x (List.mem_of_getElem? hi)
theorem gw_get {l : List Int} {i : Nat} (h : i < l.length) : l[i]? = some (gw l i) := by
 unfold gw
 rw [List.getD_eq_getElem?_getD, List.getElem?_eq_getElem h]; rfl
theorem gw_set_same {l : List Int} {i : Nat} (h : i < l.length) (x : Int) : gw (l.set i x) i = x := by
 simp [gw, List.getD_eq_getElem?_getD, h]
theorem gw_set_other {l : List Int} {i j : Nat} (h : i ≠ j) (x : Int) : gw (l.set i x) j = gw l j := by
 simp [gw, List.getD_eq_getElem?_getD, List.getElem?_set_ne h]
theorem W32.set {l : List Int} (h : W32 l) (i : Nat) {x : Int} (hx : 0 ≤ x ∧ x < 4294967296) : W32 (l.set i x) := by
 intro y hy
 rcases List.mem_or_eq_of_mem_set hy with h1 | rfl
 · exact h y h1
 · exact hx
theorem xor_rng (x y : Int) (hx : 0 ≤ x ∧ x < 4294967296) (hy : 0 ≤ y ∧ y < 4294967296) : 0 ≤ bits .xor .u32 x y ∧ bits .xor .u32 x y < 4294967296 := by
 obtain ⟨X, rfl⟩ := Int.eq_ofNat_of_zero_le hx.1
 obtain ⟨Y, rfl⟩ := Int.eq_ofNat_of_zero_le hy.1
 rw [u32_xor_nat _ _ (by omega) (by omega)]
 have := Nat.xor_lt_two_pow (n := 32) (x := X) (y := Y) (by omega) (by omega)
 omega
def stepSum (b v : List Int) (r i : Nat) : Int := (gw v i + hconst ((8 * r + i : Nat) : Int) + bits .xor .u32 (gw v ((i + 1) % 8)) (gw b ((8 * r + 5 * i + r / 2) % 16))) % 4294967296
def stepVal (b v : List Int) (r i : Nat) : Int := bits .xor .u32 (rotl (stepSum b v r i) (5 + (i + 3 * r) % 23)) (gw v ((i + 3) % 8))
def stepW (b v : List Int) (r i : Nat) : List Int := v.set i (stepVal b v r i)
theorem stepSum_rng (b v : List Int) (r i : Nat) : 0 ≤ stepSum b v r i ∧ stepSum b v r i < 4294967296 := by unfold stepSum; omega
theorem stepVal_rng (b : List Int) {v : List Int} (r i : Nat) (hv : W32 v) : 0 ≤ stepVal b v r i ∧ stepVal b v r i < 4294967296 := by
 obtain ⟨h0, h1⟩ := stepSum_rng b v r i
 exact xor_rng _ _ (rotl_rng _ _ h0 h1 (by omega)) (gw_rng hv _)
theorem stepW_len (b v : List Int) (r i : Nat) : (stepW b v r i).length = v.length := by simp [stepW]
theorem stepW_32 (b : List Int) {v : List Int} (r i : Nat) (hv : W32 v) : W32 (stepW b v r i) := hv.set i (stepVal_rng b r i hv)
def mixN (b v : List Int) : Nat → List Int
 | 0 => v
 | n + 1 => stepW b (mixN b v n) (n / 8) (n % 8)
theorem mixN_len (b v : List Int) : ∀ n, (mixN b v n).length = v.length
 | 0 => rfl
 | n + 1 => by rw [mixN, stepW_len, mixN_len b v n]
theorem mixN_32 (b : List Int) {v : List Int} (hv : W32 v) : ∀ n, W32 (mixN b v n)
 | 0 => hv
 | n + 1 => stepW_32 b _ _ (mixN_32 b hv n)
theorem mixN_step (b v : List Int) (r i : Nat) (hi : i < 8) : stepW b (mixN b v (8 * r + i)) r i = mixN b v (8 * r + (i + 1)) := by
 rw [show 8 * r + (i + 1) = (8 * r + i) + 1 by omega, mixN, show (8 * r + i) / 8 = r by omega, show (8 * r + i) % 8 = i by omega]
def addW (s v : List Int) : Nat → List Int
 | 0 => v
 | k + 1 => (addW s v k).set k ((gw v k + gw s k) % 4294967296)
theorem addW_len (s v : List Int) : ∀ k, (addW s v k).length = v.length
 | 0 => rfl
 | k + 1 => by rw [addW, List.length_set, addW_len s v k]
theorem addW_32 (s : List Int) {v : List Int} (hv : W32 v) : ∀ k, W32 (addW s v k)
 | 0 => hv
 | k + 1 => (addW_32 s hv k).set k (by omega)
theorem addW_far (s v : List Int) : ∀ k j, k ≤ j → gw (addW s v k) j = gw v j
 | 0, j, _ => rfl
 | k + 1, j, h => by rw [addW, gw_set_other (by omega), addW_far s v k j (by omega)]
def mixW (s b : List Int) : List Int := addW s (mixN b s 96) 8
theorem mixW_len (s b : List Int) : (mixW s b).length = s.length := by rw [mixW, addW_len, mixN_len]
theorem mixW_32 {s : List Int} (b : List Int) (hs : W32 s) : W32 (mixW s b) := addW_32 _ (mixN_32 b hs 96) 8
def blockW (T : ByteArray) (a : Nat) : List Int := (List.range 16).map fun i => wordI T (a + 4 * i)
theorem blockW_len (T : ByteArray) (a : Nat) : (blockW T a).length = 16 := by simp [blockW]
theorem blockW_32 (T : ByteArray) (a : Nat) : W32 (blockW T a) := by
 intro x hx
 obtain ⟨i, _, rfl⟩ := List.mem_map.1 hx
 exact wordI_rng _ _
def mixT (T : ByteArray) (s : List Int) : Nat → List Int
 | 0 => s
 | k + 1 => mixW (mixT T s k) (blockW T (64 * k))
theorem mixT_len (T : ByteArray) (s : List Int) : ∀ k, (mixT T s k).length = s.length
 | 0 => rfl
 | k + 1 => by rw [mixT, mixW_len, mixT_len T s k]
theorem mixT_32 (T : ByteArray) {s : List Int} (hs : W32 s) : ∀ k, W32 (mixT T s k)
 | 0 => hs
 | k + 1 => mixW_32 _ (mixT_32 T hs k)
def startAt (tag : Int) (i : Nat) : Int := (tag + 1) * (2 * (i : Int) + 3) % 4294967296 * 2246822519 % 4294967296
def startW (tag : Int) : List Int := (List.range 8).map fun i => startAt tag i
theorem startW_len (tag : Int) : (startW tag).length = 8 := by simp [startW]
theorem startW_32 (tag : Int) : W32 (startW tag) := by
 intro x hx
 obtain ⟨i, _, rfl⟩ := List.mem_map.1 hx
 unfold startAt
 omega
def textW : List Int → ByteArray
 | [] => ⟨#[]⟩
 | x :: l => wtext x ++ textW l
theorem textW_size : ∀ l, (textW l).size = 4 * l.length
 | [] => rfl
 | x :: l => by rw [textW, ByteArray.size_append, wtext_size, textW_size l, List.length_cons]; omega
theorem textW_snoc : ∀ (l : List Int) (x : Int), textW (l ++ [x]) = textW l ++ wtext x
 | [], x => by show wtext x ++ ⟨#[]⟩ = _; rw [append_nil]; exact (ByteArray.empty_append).symm
 | y :: l, x => by rw [List.cons_append, textW, textW_snoc l x, textW, ByteArray.append_assoc]
def zeroB (n : Nat) : ByteArray := ⟨(List.replicate n (0 : UInt8)).toArray⟩
theorem zeroB_size (n : Nat) : (zeroB n).size = n := by simp [zeroB, ByteArray.size]
def padZ (n : Nat) : Nat := (119 - n % 64) % 64
def padT (n : Nat) : ByteArray := ⟨#[128]⟩ ++ zeroB (padZ n) ++ wtext 0 ++ wtext n
theorem padT_size (n : Nat) : (padT n).size = padZ n + 9 := by
 simp only [padT, ByteArray.size_append, zeroB_size, wtext_size]
 have : (⟨#[128]⟩ : ByteArray).size = 1 := rfl
 omega
def digestT (width : Nat) (tag : Int) (T : ByteArray) : ByteArray := (textW (mixT (T ++ padT T.size) (startW tag) ((T ++ padT T.size).size / 64))).extract 0 width
def digestOk (width tag : Int) (T : ByteArray) : Bool := inR width 1 32 && inR tag 0 255 && decide (T.size ≤ 4000)
def digest (width tag : Int) (T : ByteArray) : ByteArray := if digestOk width tag T then digestT width.toNat tag T else ⟨#[]⟩
theorem digest_size {width tag : Int} {T : ByteArray} (h : digestOk width tag T = true) : (digest width tag T).size = width.toNat := by
 simp only [digest, h, if_true, digestT]
 rw [ByteArray.size_extract, textW_size, mixT_len, startW_len]
 simp only [digestOk, Bool.and_eq_true] at h
 have := inR_true h.1.1
 omega
end Go.Proofs.Ytgeengkdgdjcjaa
