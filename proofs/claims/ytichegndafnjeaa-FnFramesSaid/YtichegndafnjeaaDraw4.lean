/-
  The reference's drawing: numbers of a list, long texts, hashes. No condition.
-/
import Derived.Test.YtichegndafnjeaaDraw3
import Derived.Test.YtichegndafnjeaaHeadOps
namespace Go.Proofs.Ytichegndafnjeaa
open Go.RowKit
set_option linter.unusedVariables false

set_option maxHeartbeats 2000000 in
set_option maxRecDepth 100000 in
theorem l01PickInt_any (B g p : Nat) (A : Option Addr) (c cp : Nat) (l : List Int) (ts : List Int) (w : World) (hpos : 0 < ts.length) (hts : ts.length ≤ 256) (hpg : p ≠ g) (hp : Blk w p 3 (ts.map (Value.int .i64)).toArray) (hC : CurAt w B g A c l) :
    Calls Try.prog 99 #[.pointer (some ⟨g, 0, none⟩), .slice (some ⟨p, 0, none⟩) ts.length cp] w fun e w' => ∃ t ∈ ts, e = .returned (.int .i64 t) ∧ CurAt w' B g A c l ∧ ExtBut g w w' := by
  go_enter Try.func99, Try.ntmps99
  go_wp2_with fail
  refine (l01Below_any B g A c l _ _ (by omega) (by omega) hC).mono ?_
  rintro e w1 ⟨x, ⟨hx0, hx1⟩, rfl, h1, k1⟩
  obtain ⟨k, rfl⟩ : ∃ k : Nat, x = (k : Int) := ⟨x.toNat, by omega⟩
  have hk : k < ts.length := by omega
  have hp1 := hp.extBut k1 hpg
  have c0 : w1.cell? ⟨p, k, none⟩ = some (.int .i64 ts[k]) := by rw [hp1.cell]; simp [hk]
  have c1 : w1.cell? ⟨p, 0 + k * 1, none⟩ = some (.int .i64 ts[k]) := by rw [Nat.mul_one, Nat.zero_add]; exact c0
  have hm := List.getElem_mem hk
  have hw : IntKind.i64.wrap (k : Int) = (k : Int) := IntWalk.i64_in _ (by omega)
  clear hp1 hp
  generalize ts[k] = t at *
  go_wp2_with fail
  go_ret
  exact ⟨t, hm, rfl, h1, k1⟩
theorem byteC_flat (l : List Int) : l.flatMap byteC = bvals l := by
  induction l with
  | nil => rfl
  | cons a l ih => rw [List.flatMap_cons, ih]; rfl
set_option maxHeartbeats 2000000 in
set_option maxRecDepth 100000 in
theorem l01Long_any (n : Nat) (x : Int) (w : World) (hn : n ≤ 5000) (hx : 0 ≤ x ∧ x < 256) :
    Calls Try.prog 68 #[.int .i64 (n : Int), .int .u8 x] w fun e w' => ∃ s : ByteArray, s.size = n ∧ e = .returned (.string s) ∧ Ext w w' := by
  obtain ⟨l, hl⟩ : ∃ l, l = List.replicate n x := ⟨_, rfl⟩
  have hll : l.length = n := by rw [hl, List.length_replicate]
  have hlx : ∀ k (h : k < l.length), l[k] = x := fun k h => by subst hl; exact List.getElem_replicate ..
  have Hlb := Lib.hid (show ∀ y ∈ l, 0 ≤ y ∧ y < 256 by intro y hy; rw [hl] at hy; rw [(List.mem_replicate.1 hy).2]; exact hx)
  clear hl
  subst hll
  obtain ⟨Z, hZ, hmk⟩ := make_any (P := Try.prog) (t := 22) (e := 5) (size := 1) (bytes := 1) l.length Try.underlying22 (by kernel_rfl) (by omega) (by omega)
  have HZ := Lib.hid hZ; clear hZ
  have Hs := Lib.hid (Filled.start (f := byteC) (size := 1) (t := 5) (l := l) w Z)
  have He := Lib.hid (Ext.new (Below.refl w.heap.size w) (.cells Z 5))
  have Hlx := Lib.hid hlx; clear hlx
  go_enter Try.func68, Try.ntmps68
  go_wp2
  obtain ⟨g, hg⟩ : ∃ g, g = w.heap.size := ⟨_, rfl⟩
  rw [← hg]
  rw [← hg] at Hs
  have hg0 : w.heap.size ≤ g := by omega
  clear hg
  go_loopw [6] (fun i wr => ∃ (k : Nat), k ≤ l.length ∧ i = .int .i64 k ∧ Filled byteC 1 5 l g Z k wr ∧ Ext w wr) (fun i _ => l.length - (intOf i).toNat)
  case atStart => exact ⟨0, Nat.zero_le _, rfl, Hs.out, He.out⟩
  case round =>
    clear Hs He
    obtain ⟨k, hk, rfl, hi, he⟩ := hrel
    by_cases hlt : k < l.length
    · have hd : decide ((k : Int) < (l.length : Int)) = true := by rw [decide_eq_true_iff]; omega
      have ht := Filled.there (f := byteC) (size := 1) (fun _ => rfl) HZ.out hi hlt
      have Hn := Lib.hid (Filled.step (f := byteC) (size := 1) (fun _ => rfl) HZ.out hi hlt)
      rw [Hlx.out k hlt, Nat.mul_one] at Hn
      have hz := Blk.frozen hi
      obtain ⟨v0, z0⟩ := Option.isSome_iff_exists.1 (ht 0 (by omega)).1
      rw [Nat.add_zero, Nat.mul_one] at z0
      clear ht
      have He2 := Lib.hid (ext_setCells (g := g) (W := w) hg0 (byteC x) k wr he)
      have hw : IntKind.i64.wrap (k : Int) = (k : Int) := IntWalk.i64_in _ (by omega)
      clear hi
      go_wp2_with fail
      go_roundw
      case rel => exact ⟨k + 1, by omega, by go_num, Hn.out, He2.out⟩
      case measure => simp [intOf]; omega
    · have hd : decide ((k : Int) < (l.length : Int)) = false := by rw [decide_eq_false_iff_not]; omega
      have hB : Blk wr g 5 (bvals l).toArray := by
        have := hi.done HZ.out (by omega)
        rw [byteC_flat] at this
        exact this
      have hconv : (convert 22 9 (.slice (some ⟨g, 0, none⟩) l.length l.length)).run Try.prog wr = .ok (.string (ofInts l)) wr := by
        rcases Nat.eq_zero_or_pos l.length with h0 | h0
        · obtain rfl := List.eq_nil_of_length_eq_zero h0
          exact string0 _ _ _
        · exact own_string rfl (Blk.ownsRow hB l.length 1 g (Nat.le_refl _) (by simp [bvals]) (by unfold maxLen; omega)) h0 Hlb.out
      have hsz : (ofInts l).size = l.length := by simp [ofInts, ByteArray.size]
      clear hi hB
      generalize ofInts l = s at *
      go_wp2_with fail
      go_ret
      exact ⟨s, hsz, rfl, he⟩
end Go.Proofs.Ytichegndafnjeaa
