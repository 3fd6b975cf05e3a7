/-
  What the laws' marking makes of a row of Given; markGivenS, heldGivenS: walks. Written by program (gen_mark.py). No condition.
-/
import Derived.Test.YtcpfgldcijkhlaaMarkBase
import Derived.Test.YtcpfgldcijkhlaaTypes
namespace Go.Proofs.Ytcpfgldcijkhlaa
open Go.RowKit
set_option linter.unusedVariables false

def GivenD.mk_ (k : Nat) : GivenD := ⟨(k : Int), ((k + 1 : Nat) : Int), ⟨markB (k + 2), ((k + 3 : Nat) : Int), ((k + 4 : Nat) : Int), markB (k + 5), markB (k + 6)⟩⟩
def GivenD.mkL (k n : Nat) : List GivenD := (List.range n).map (fun i => GivenD.mk_ (k + i * 7))
theorem GivenD.mkL_len (k n : Nat) : (GivenD.mkL k n).length = n := by simp [GivenD.mkL]
theorem GivenD.mkL_at (k n i : Nat) (h : i < (GivenD.mkL k n).length) : (GivenD.mkL k n)[i] = GivenD.mk_ (k + i * 7) := by simp [GivenD.mkL]
set_option maxHeartbeats 4000000 in
set_option maxRecDepth 100000 in
theorem markGivenS_any (g n c k : Nat) (cs : Array Value) (w : World) (hB : Blk w g 161 cs) (hn : n * 7 ≤ cs.size) (hl : n ≤ 1048576) (hk : k ≤ 1099511627) :
    Calls Try.prog 30 #[.slice (some ⟨g, 0, none⟩) n c, .int .i64 (k : Int)] w fun e w' => e = .returned (.int .i64 ((k + n * 7 : Nat) : Int)) ∧ Blk w' g 161 (rowAt GivenD.cells 7 (GivenD.mkL k n) cs n) ∧ ExtBut g w w' := by
  have Hn := Lib.hid hn
  have Hs := Lib.hid (fun j (hj : j ≤ n) => rowAt_size (k := j) GivenD.cells_length (l := GivenD.mkL k n) (cs := cs) (by rw [GivenD.mkL_len]; exact hn) (by rw [GivenD.mkL_len]; exact hj))
  have Hst := Lib.hid (fun j (hj : j < n) => rowAt_step (k := j) GivenD.cells_length (l := GivenD.mkL k n) (cs := cs) (by rw [GivenD.mkL_len]; exact hn) (by rw [GivenD.mkL_len]; exact hj))
  clear hn
  have B0 := Lib.hid (show Blk w g 161 (rowAt GivenD.cells 7 (GivenD.mkL k n) cs 0) by rw [rowAt_zero]; exact hB)
  clear hB
  go_enter Try.func30, Try.ntmps30
  go_wp2_with fail
  go_loopw [1, 5] (fun q i wr => ∃ (j : Nat), j ≤ n ∧ i = .int .i64 j ∧ q = .int .i64 ((k + j * 7 : Nat) : Int) ∧ Blk wr g 161 (rowAt GivenD.cells 7 (GivenD.mkL k n) cs j) ∧ ExtBut g w wr) (fun _ i _ => n - (intOf i).toNat)
  case atStart => exact ⟨0, Nat.zero_le _, rfl, by simp, B0.out, ExtBut.refl g w⟩
  case round =>
    clear B0
    obtain ⟨j, hj, rfl, rfl, hb, hx⟩ := hrel
    by_cases hlt : j < n
    case neg =>
      obtain rfl : j = n := by omega
      go_wp2_with fail
      go_ret
      exact ⟨rfl, hb, hx⟩
    have hz := Hs.out j hj
    have hn0 : j * 7 + 7 ≤ cs.size := by have := Hn.out; have := Nat.mul_le_mul_right 7 (show j + 1 ≤ n from hlt); omega
    have hkj : k + j * 7 ≤ 1099511627700 := by have := Nat.mul_le_mul_right 7 hj; omega
    generalize hM : rowAt GivenD.cells 7 (GivenD.mkL k n) cs j = M at *
    have HM := Lib.hid hM
    clear hM
    have q0 : (0 : Int) ≤ ((k + j * 7 : Nat) : Int) := by omega
    have q1 : ((k + j * 7 : Nat) : Int) ≤ 1099511627700 := by omega
    generalize hQ : k + j * 7 = Q at *
    have HQ := Lib.hid hQ
    clear hQ
    obtain ⟨v0, z0⟩ := Blk.has hb (i := j * 7) (by rw [hz]; omega)
    obtain ⟨v1, z1⟩ := Blk.has hb (i := j * 7 + 1) (by rw [hz]; omega)
    have hf := hb.frozen
    go_wp2_with fail
    refine (markText_int _ (Q + 2) (by omega) _ (by omega)).mono ?_
    rintro e w2 ⟨rfl, hx2⟩
    have hb2 := ((hb.set_ _ _).set_ _ _).ext hx2
    have hy2 := ((hx.set_ _ _).set_ _ _).next (ExtBut.of_ext hx2)
    clear hx2 hf z0 z1
    clear hb hx
    have hx := hy2; clear hy2
    obtain ⟨v2, z2⟩ := Blk.has hb2 (i := j * 7 + 2) (by (try simp only [Array.size_setIfInBounds]); rw [hz]; omega)
    have hf := hb2.frozen
    obtain ⟨v3, z3⟩ := Blk.has hb2 (i := j * 7 + 3) (by (try simp only [Array.size_setIfInBounds]); rw [hz]; omega)
    obtain ⟨v4, z4⟩ := Blk.has hb2 (i := j * 7 + 4) (by (try simp only [Array.size_setIfInBounds]); rw [hz]; omega)
    go_wp2_with fail
    refine (markText_int _ (Q + 5) (by omega) _ (by omega)).mono ?_
    rintro e w5 ⟨rfl, hx5⟩
    have hb5 := (((hb2.set_ _ _).set_ _ _).set_ _ _).ext hx5
    have hy5 := (((hx.set_ _ _).set_ _ _).set_ _ _).next (ExtBut.of_ext hx5)
    clear hx5 hf z2 z3 z4
    clear hb2 hx
    have hx := hy5; clear hy5
    obtain ⟨v5, z5⟩ := Blk.has hb5 (i := j * 7 + 5) (by (try simp only [Array.size_setIfInBounds]); rw [hz]; omega)
    have hf := hb5.frozen
    go_wp2_with fail
    refine (markText_int _ (Q + 6) (by omega) _ (by omega)).mono ?_
    rintro e w6 ⟨rfl, hx6⟩
    have hb6 := (hb5.set_ _ _).ext hx6
    have hy6 := (hx.set_ _ _).next (ExtBut.of_ext hx6)
    clear hx6 hf z5
    clear hb5 hx
    have hx := hy6; clear hy6
    obtain ⟨v6, z6⟩ := Blk.has hb6 (i := j * 7 + 6) (by (try simp only [Array.size_setIfInBounds]); rw [hz]; omega)
    have hf := hb6.frozen
    have hfin := (hb6.set_ (j * 7 + 6) (.string (markB (Q + 6))))
    have HX := Lib.hid (hx.set_ (j * 7 + 6) (.string (markB (Q + 6))))
    have hset := Hst.out j hlt
    rw [HM.out, GivenD.mkL_at, HQ.out] at hset
    have HB : Hid (Blk _ g 161 (rowAt GivenD.cells 7 (GivenD.mkL k n) cs (j + 1))) := Lib.hid (by rw [← hset]; exact hfin)
    clear hset hfin hb6 hx hz
    go_wp2_with fail
    go_roundw
    case rel => exact ⟨j + 1, by omega, by go_num, congrArg (Value.int .i64) (by have := HQ.out; omega), HB.out, HX.out⟩
    case measure => simp [intOf]; omega
end Go.Proofs.Ytcpfgldcijkhlaa
