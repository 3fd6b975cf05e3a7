/-
  Draw: No condition.
-/
import Derived.Test.YtgeengkdgdjcjaaNString
import Derived.Test.YtgeengkdgdjcjaaTexts
import Derived.Laws.BitsLemmas
namespace Go.Proofs.Ytgeengkdgdjcjaa
set_option maxHeartbeats 2000000
set_option maxRecDepth 100000
set_option linter.unusedSimpArgs false
open Go.RowKit
set_option linter.unusedVariables false
theorem and_low (a : Int) (m : Nat) (hm : m < 4611686018427387904) : 0 ≤ bits .and .i64 a (m : Int) ∧ bits .and .i64 a (m : Int) ≤ m := by
 have h1 : ∀ x y : BitVec 64, (x &&& y).toNat ≤ y.toNat := fun x y => by rw [BitVec.toNat_and]; exact Nat.and_le_right
 have h2 := h1 (BitVec.ofInt 64 a) (BitVec.ofInt 64 (m : Int))
 have h3 : (BitVec.ofInt 64 (m : Int)).toNat = m := by
  rw [BitVec.toNat_ofInt]; omega
 rw [h3] at h2
 have h4 : bits .and .i64 a (m : Int) = IntKind.i64.wrap (((BitVec.ofInt 64 a) &&& (BitVec.ofInt 64 (m : Int))).toNat : Int) := rfl
 rw [h4, IntKind.wrap_i64]
 generalize ((BitVec.ofInt 64 a) &&& (BitVec.ofInt 64 (m : Int))).toNat = z at h2 ⊢
 omega
theorem and255 (a : Int) : 0 ≤ bits .and .i64 a 255 ∧ bits .and .i64 a 255 ≤ 255 := and_low a 255 (by decide)
def byteC (x : Int) : List Value := [.int .u8 x]
def ByteIn (x : Int) : Prop := 0 ≤ x ∧ x ≤ 255
def CurAt (w : World) (B g : Nat) (A : Option Addr) (c : Nat) (l : List Int) : Prop :=
 B ≤ g ∧ l.length ≤ maxLen ∧ (∀ x ∈ l, ByteIn x) ∧ ReadsL w B byteC 1 A l ∧ ∃ (i : Nat) (h : Int), Blk w g 60 #[.slice A l.length c, .int .i64 (i : Int), .int .i64 h] ∧ i ≤ l.length
section
variable {w w' : World} {B g : Nat} {A : Option Addr} {c : Nat} {l : List Int}
theorem CurAt.lt (h : CurAt w B g A c l) : g < w.heap.size := by
 obtain ⟨_, _, _, _, i, x, hb, _⟩ := h; exact hb.lt
theorem CurAt.ext (h : CurAt w B g A c l) (he : Ext w w') : CurAt w' B g A c l := by
 have hg := h.lt
 obtain ⟨h1, h2, h3, h4, i, x, hb, hi⟩ := h
 exact ⟨h1, h2, h3, h4.below (he.mono (by omega)), i, x, hb.ext he, hi⟩
end
theorem byteC_at {w : World} {B : Nat} {A : Option Addr} {l : List Int} (h : ReadsL w B byteC 1 A l) {k : Nat} (hk : k < l.length) : ∃ b off, A = some ⟨b, off, none⟩ ∧ b < B ∧ w.cell? ⟨b, off + k, none⟩ = some (.int .u8 l[k]) := by
 obtain ⟨b, off, e, hb, hc⟩ := Reads.at_ h hk
 refine ⟨b, off, e, hb, ?_⟩
 have h1 := hc 0 (.int .u8 l[k]) (by rw [flat_at byteC 1 (fun _ => rfl) l k 0 _ (List.getElem?_eq_getElem hk) (by omega)]; rfl)
 simpa using h1
theorem l01Byte_any (B g : Nat) (A : Option Addr) (c : Nat) (l : List Int) (w : World) (hC : CurAt w B g A c l) :
 Calls Try.prog 19 #[.pointer (some ⟨g, 0, none⟩)] w fun e w' => ∃ x : Int, ByteIn x ∧ e = .returned (.int .i64 x) ∧ CurAt w' B g A c l ∧ ExtBut g w w' := by
 obtain ⟨hBg, hlen, hin, hr, i, h, hb, hi⟩ := hC
 have hmax : l.length ≤ 9223372036854775807 := hlen
 obtain ⟨hc, hf⟩ := hb.rules
 have c2 : w.cell? ⟨g, 2, none⟩ = some (.int .i64 h) := hc 2
 clear hc
 go_enter Try.func19, Try.ntmps19
 go_wp2_with fail
 have B1 := hb.set_ 2 (.int .i64 (wrap64 (wrap64 (h * 6364136223846793005) + 1442695040888963407)))
 have x1 := (ExtBut.refl g w).set_ 2 (.int .i64 (wrap64 (wrap64 (h * 6364136223846793005) + 1442695040888963407)))
 have r1 : ReadsL (w.setCell ⟨g, 2, none⟩ (.int .i64 (wrap64 (wrap64 (h * 6364136223846793005) + 1442695040888963407)))) B byteC 1 A l := hr.setCell hBg _
 clear c2 hb hf hr
 generalize wrap64 (wrap64 (h * 6364136223846793005) + 1442695040888963407) = h2 at *
 generalize w.setCell ⟨g, 2, none⟩ (.int .i64 h2) = w1 at *
 obtain ⟨hc, hf⟩ := B1.rules
 have c0 : w1.cell? ⟨g, 0, none⟩ = some (.slice A l.length c) := hc 0
 have c1 : w1.cell? ⟨g, 1, none⟩ = some (.int .i64 (i : Int)) := hc 1
 have c2 : w1.cell? ⟨g, 2, none⟩ = some (.int .i64 h2) := hc 2
 clear hc
 go_quiet (fail)
 have hx : ByteIn (bits .and .i64 (bits .xor .i64 (h2 / 8589934592) (h2 / 35184372088832)) 255) := and255 _
 generalize bits .and .i64 (bits .xor .i64 (h2 / 8589934592) (h2 / 35184372088832)) 255 = x at *
 have hw : IntKind.i64.wrap (i : Int) = (i : Int) := IntWalk.i64_in _ (by omega)
 obtain ⟨hx0, hx1⟩ := hx
 by_cases hlt : i < l.length
 · have hd : decide ((i : Int) < (l.length : Int)) = true := by rw [decide_eq_true_iff]; omega
   obtain ⟨b, off, rfl, hbB, e0⟩ := byteC_at r1 hlt
   obtain ⟨hy0, hy1⟩ := hin _ (List.getElem_mem hlt)
   go_wp2_with fail
   go_quiet (fail)
   go_wp2_with fail
   have g0 : w1.cell? ⟨b, off + i * 1, none⟩ = some (.int .u8 l[i]) := by rw [Nat.mul_one]; exact e0
   go_quiet (fail)
   go_wp2_with fail
   go_ret
   exact ⟨_, and255 _, rfl, ⟨hBg, hlen, hin, (r1.drewN _).setCell hBg _, i + 1, h2, (B1.drewN _).set_ 1 (.int .i64 ((i : Int) + 1)), hlt⟩, (x1.drewN _).set_ 1 _⟩
 · have hd : decide ((i : Int) < (l.length : Int)) = false := by rw [decide_eq_false_iff_not]; omega
   go_wp2_with fail
   go_quiet (fail)
   go_wp2_with fail
   go_ret
   exact ⟨x, ⟨hx0, hx1⟩, rfl, ⟨hBg, hlen, hin, r1, i, h2, (B1.drewN _).drewN _, hi⟩, (x1.drewN _).drewN _⟩
theorem l01Below_any (B g : Nat) (A : Option Addr) (c : Nat) (l : List Int) (n : Int) (w : World) (hn0 : 0 < n) (hn1 : n ≤ 1099511627776) (hC : CurAt w B g A c l) :
 Calls Try.prog 20 #[.pointer (some ⟨g, 0, none⟩), .int .i64 n] w fun e w' => ∃ x : Int, (0 ≤ x ∧ x < n) ∧ e = .returned (.int .i64 x) ∧ CurAt w' B g A c l ∧ ExtBut g w w' := by
 have hnp : decide (n ≤ 0) = false := by rw [decide_eq_false_iff_not]; omega
 by_cases hb : n ≤ 256
 · have hd : decide (n ≤ 256) = true := by rw [decide_eq_true_iff]; exact hb
   go_enter Try.func20, Try.ntmps20
   go_wp2_with fail
   refine (l01Byte_any B g A c l _ hC).mono ?_
   rintro e w1 ⟨x, ⟨hx0, hx1⟩, rfl, h1, k1⟩
   go_wp2_with fail
   go_ret
   exact ⟨_, ⟨Int.emod_nonneg _ (by omega), Int.emod_lt_of_pos _ hn0⟩, rfl, ‹_›, k1⟩
 · have hd : decide (n ≤ 256) = false := by rw [decide_eq_false_iff_not]; exact hb
   go_enter Try.func20, Try.ntmps20
   go_wp2_with fail
   refine (l01Byte_any B g A c l _ hC).mono ?_
   rintro e w1 ⟨x, ⟨hx0, hx1⟩, rfl, h1, k1⟩
   go_wp2_with fail
   refine (l01Byte_any B g A c l _ h1).mono ?_
   rintro e w2 ⟨x2, ⟨hx2, hx3⟩, rfl, h2, k2⟩
   have k1 := k1.next k2
   go_wp2_with fail
   refine (l01Byte_any B g A c l _ h2).mono ?_
   rintro e w3 ⟨x4, ⟨hx4, hx5⟩, rfl, h3, k3⟩
   have k1 := k1.next k3
   go_wp2_with fail
   refine (l01Byte_any B g A c l _ h3).mono ?_
   rintro e w4 ⟨x6, ⟨hx6, hx7⟩, rfl, h4, k4⟩
   have k1 := k1.next k4
   go_wp2_with fail
   go_ret
   exact ⟨_, ⟨Int.emod_nonneg _ (by omega), Int.emod_lt_of_pos _ hn0⟩, rfl, ‹_›, k1⟩
theorem l01New_any (B : Nat) (A : Option Addr) (c : Nat) (l : List Int) (w : World) (hB : B ≤ w.heap.size) (hlen : l.length ≤ maxLen) (hin : ∀ x ∈ l, ByteIn x) (hr : ReadsL w B byteC 1 A l) :
 Calls Try.prog 15 #[.slice A l.length c] w fun e w' => ∃ g, w.heap.size ≤ g ∧ e = .returned (.pointer (some ⟨g, 0, none⟩)) ∧ CurAt w' B g A c l ∧ Ext w w' := by
 have hmax : l.length ≤ 9223372036854775807 := hlen
 go_enter Try.func15, Try.ntmps15
 go_wp2_with fail
 go_loopw [3, 4] (fun h i wr => ∃ (k : Nat) (x : Int), (k ≤ l.length ∧ k ≤ 4000) ∧ i = .int .i64 (k : Int) ∧ h = .int .i64 x ∧ ReadsL wr B byteC 1 A l ∧ Ext w wr) (fun _ i _ => l.length - (intOf i).toNat)
 case atStart => exact ⟨0, _, by omega, rfl, rfl, hr, Below.refl _ _⟩
 case round =>
  obtain ⟨k, x, ⟨hk0, hk1⟩, rfl, rfl, hrr, he⟩ := hrel
  by_cases hlt : k < l.length
  · by_cases h4 : k < 4000
    · have hd : decide ((k : Int) < (l.length : Int)) = true := by rw [decide_eq_true_iff]; omega
      have hd4 : decide ((k : Int) < 4000) = true := by rw [decide_eq_true_iff]; omega
      obtain ⟨b, off, rfl, hbB, e0⟩ := byteC_at hrr hlt
      obtain ⟨hy0, hy1⟩ := hin _ (List.getElem_mem hlt)
      have hw : IntKind.i64.wrap (k : Int) = (k : Int) := IntWalk.i64_in _ (by omega)
      have g0 : wr.cell? ⟨b, off + k * 1, none⟩ = some (.int .u8 l[k]) := by rw [Nat.mul_one]; exact e0
      go_wp2_with fail
      go_roundw
      case rel => exact ⟨k + 1, _, by omega, rfl, rfl, hrr, he⟩
      case measure => simp [intOf]; omega
    · have hd : decide ((k : Int) < (l.length : Int)) = true := by rw [decide_eq_true_iff]; omega
      have hd4 : decide ((k : Int) < 4000) = false := by rw [decide_eq_false_iff_not]; omega
      go_wp2_with fail
      go_ret
      exact ⟨_, he.size, rfl, ⟨Nat.le_trans hB he.size, hlen, hin, hrr.alloc (Nat.le_trans hB he.size) _, 0, _, Blk.new _ _ _, Nat.zero_le _⟩, Ext.new he _⟩
  · have hd : decide ((k : Int) < (l.length : Int)) = false := by rw [decide_eq_false_iff_not]; omega
    go_wp2_with fail
    go_ret
    exact ⟨_, he.size, rfl, ⟨Nat.le_trans hB he.size, hlen, hin, hrr.alloc (Nat.le_trans hB he.size) _, 0, _, Blk.new _ _ _, Nat.zero_le _⟩, Ext.new he _⟩
end Go.Proofs.Ytgeengkdgdjcjaa
