/-
  Hex: plain, and walks. Written by program (gen_hex.py). No condition.
-/
import Derived.Test.YtichegndafnjeaaDoorDec
import Derived.Test.YtichegndafnjeaaDoorBytes0
import Derived.Test.YtichegndafnjeaaDoorBunch
import Derived.Test.YtichegndafnjeaaDoorAppNew
namespace Go.Proofs.YtichegndafnjeaaDoor
set_option linter.unusedSimpArgs false
open Go.RowKit
set_option linter.unusedVariables false

def hexDig (n : Nat) : Int := if n < 10 then 48 + n else 87 + n
def hexL (l : List UInt8) : List Int := l.flatMap fun c => [hexDig (c.toNat / 16), hexDig (c.toNat % 16)]
def hexT (s : ByteArray) : ByteArray := ofInts (hexL s.data.toList)
theorem hexDig_rng {n : Nat} (h : n < 16) : 0 ≤ hexDig n ∧ hexDig n < 256 := by unfold hexDig; split <;> omega
theorem hexL_len (l : List UInt8) : (hexL l).length = 2 * l.length := by
  induction l with
  | nil => rfl
  | cons a l ih => rw [hexL, List.flatMap_cons, List.length_append] ; unfold hexL at ih; rw [ih]; simp; omega
theorem hexL_rng (l : List UInt8) : ∀ x ∈ hexL l, 0 ≤ x ∧ x < 256 := by
  intro x hx
  obtain ⟨c, _, h⟩ := List.mem_flatMap.1 hx
  have := c.toNat_lt
  simp at h
  rcases h with rfl | rfl
  · exact hexDig_rng (by omega)
  · exact hexDig_rng (by omega)
theorem hexL_next {s : ByteArray} {k : Nat} (hk : k < s.size) : hexL (s.data.toList.take (k + 1)) = hexL (s.data.toList.take k) ++ [hexDig (s[k].toNat / 16), hexDig (s[k].toNat % 16)] := by
  have h : k < s.data.toList.length := by simpa using hk
  rw [List.take_succ_eq_append_getElem h, hexL, List.flatMap_append]
  simp [hexL]
  exact ⟨rfl, rfl⟩
theorem hexT_size (s : ByteArray) : (hexT s).size = 2 * s.size := by
  have h : (ofInts (hexL s.data.toList)).size = (hexL s.data.toList).length := by simp [ofInts, ByteArray.size]
  rw [hexT, h, hexL_len]; simp
theorem l01Figure_hex (n : Nat) (w : World) (h1 : n < 16) : Calls Tryd.prog 37 #[.int .i64 (n : Int)] w fun e w' => e = .returned (.int .u8 (hexDig n)) ∧ w = w' := by
  by_cases h : n < 10
  · have e : hexDig n = 48 + (n : Int) := by rw [hexDig, if_pos h]
    rw [e]
    go_enter Tryd.func37, Tryd.ntmps37
    go_wp2_with fail
    go_ret
    exact ⟨rfl, rfl⟩
  · have e : hexDig n = 97 + (n : Int) - 10 := by rw [hexDig, if_neg h]; omega
    have d : decide ((n : Int) < 10) = false := by rw [decide_eq_false_iff_not]; omega
    rw [e]
    go_enter Tryd.func37, Tryd.ntmps37
    go_wp2_with fail
    go_ret
    exact ⟨rfl, rfl⟩
theorem string0b (w : World) (a : Addr) (cap : Nat) : (convert 103 9 (.slice (some a) 0 cap)).run Tryd.prog w = .ok (.string (ofInts [])) w :=
  run_convert_bytes_back (P := Tryd.prog) w 103 9 5 a cap [] Tryd.underlying103 Tryd.underlying5 Tryd.underlying9 (fun j hj => by simp at hj)
set_option maxHeartbeats 600000 in
set_option maxRecDepth 100000 in
theorem specHex_any (s : ByteArray) (w : World) (hs : s.size ≤ maxLen) : Calls Tryd.prog 14 #[.string s] w fun e w' => e = .returned (.tuple #[.string (if s.size ≤ 4000 then hexT s else ⟨#[]⟩), .bool (decide (s.size ≤ 4000))]) ∧ Ext w w' := by
  unfold maxLen at hs
  by_cases hb : s.size ≤ 4000
  case neg =>
    rw [if_neg hb, decide_eq_false hb]
    have d0 : decide ((4000 : Int) < (s.size : Int)) = true := by rw [decide_eq_true_eq]; omega
    go_enter Tryd.func14, Tryd.ntmps14
    go_wp2_with fail
    go_ret2
    exact ⟨rfl, Below.refl _ _⟩
  rw [if_pos hb, decide_eq_true hb]
  have d0 : decide ((4000 : Int) < (s.size : Int)) = false := by rw [decide_eq_false_iff_not]; omega
  obtain ⟨i0, hinf, hz0, hz1, hz2⟩ := info_parts info_u8
  have H0 := Lib.hid (ownsRow_empty w 5 1)
  have He := Lib.hid (Ext.new (Below.refl w.heap.size w) (.cells #[] 5))
  go_enter Tryd.func14, Tryd.ntmps14
  go_wp2_with fail
  obtain ⟨B, hB⟩ : ∃ B, B = w.heap.size := ⟨_, rfl⟩
  rw [← hB] at H0
  rw [← hB]
  have Hb : w.heap.size ≤ B := by omega
  have HB := Lib.hid hB
  clear hB
  go_loopw [4, 5] (fun v x wr => ∃ k : Nat, k ≤ s.size ∧ x = .int .i64 k ∧ wr.ownsRow B 5 1 v (2 * k) (bvals (hexL (s.data.toList.take k))) ∧ (k = 0 → ∃ a c, v = .slice (some a) 0 c) ∧ Ext w wr) (fun _ x _ => s.size - (intOf x).toNat)
  case atStart => exact ⟨0, Nat.zero_le _, rfl, H0.out, fun _ => ⟨_, _, rfl⟩, He.out⟩
  case round =>
    clear H0 He
    obtain ⟨k, hk, rfl, hown, hz, he⟩ := hrel
    obtain ⟨A', c', rfl, hnc⟩ := ownsRow_form hown
    have KO := Lib.hid hown; have HZ := Lib.hid hz; have HX := Lib.hid he
    clear hown hz he
    by_cases hlt : k < s.size
    case neg =>
      obtain rfl : k = s.size := by omega
      have d1 : decide ((s.size : Int) < (s.size : Int)) = false := by simp
      have hown := KO.out
      rw [List.take_of_length_le (by simp)] at hown
      have hconv : (convert 103 9 (.slice A' (2 * s.size) c')).run Tryd.prog wr = .ok (.string (hexT s)) wr := by
        rcases Nat.eq_zero_or_pos s.size with h0 | h0
        · obtain ⟨a, c2, ha⟩ := HZ.out h0
          obtain ⟨rfl, h1, rfl⟩ : A' = some a ∧ 2 * s.size = 0 ∧ c' = c2 := by simpa using ha
          rw [h1]
          have e : hexT s = ofInts [] := by
            have : s.data.toList = [] := List.eq_nil_of_length_eq_zero (by simpa using h0)
            rw [hexT, this]; rfl
          rw [e]
          exact string0b _ _ _
        · exact own_string (n := 2 * s.size) (by rw [hexL_len]; simp) hown (by omega) (hexL_rng _)
      clear KO hown
      go_wp2_with fail
      go_ret2
      exact ⟨rfl, HX.out⟩
    have d1 : decide ((k : Int) < (s.size : Int)) = true := by rw [decide_eq_true_eq]; omega
    have Hn := Lib.hid (hexL_next hlt)
    have hc := (s[k]).toNat_lt
    have hw : IntKind.i64.wrap (k : Int) = (k : Int) := IntWalk.i64_in _ (by omega)
    have p0 : (0 : Int) ≤ (k : Int) := by omega
    have p1 : (k : Int) < (s.size : Int) := by omega
    obtain ⟨x, hx⟩ : ∃ x, x = s[k].toNat := ⟨_, rfl⟩
    rw [← hx] at hc Hn
    have w2 : IntKind.i64.wrap ((s[k].toNat : Nat) : Int) = (x : Int) := by rw [← hx]; exact IntWalk.i64_in _ (by omega)
    go_wp2_with fail
    refine wp_region_any (by kernel_rfl) ?_
    change wpAny _ _ _ _ _ _ _ (World.drew _)
    refine takeA (i := 0) (oi := _) (v := ?vs0) (some 16) rfl rfl (by kernel_rfl) (by kernel_rfl) (by kernel_rfl) (fun _ a b _ e h => by cases a; cases b; cases e; exact h) (Or.inl ⟨by rfl, ?ys0⟩) ?rs0
    case ys0 => intro w'; go_simp; try with_reducible rfl
    (try simp only [fillA, Act.put, List.setIfInBounds_toArray, List.set_cons_zero, List.set_cons_succ])
    refine takeA (i := 1) (oi := _) (v := ?vs1) (some 17) rfl rfl (by kernel_rfl) (by kernel_rfl) (by kernel_rfl) (fun _ a b _ e h => by cases a; cases b; cases e; exact h) (Or.inl ⟨by rfl, ?ys1⟩) ?rs1
    case ys1 => intro w'; go_simp; try with_reducible rfl
    (try simp only [fillA, Act.put, List.setIfInBounds_toArray, List.set_cons_zero, List.set_cons_succ])
    refine takeA (i := 2) (oi := _) (v := ?vs2) (some 18) rfl rfl (by kernel_rfl) (by kernel_rfl) (by kernel_rfl) (fun _ a b _ e h => by cases a; cases b; cases e; exact h) (Or.inl ⟨by rfl, ?ys2⟩) ?rs2
    case ys2 => intro w'; go_simp; try with_reducible rfl
    (try simp only [fillA, Act.put, List.setIfInBounds_toArray, List.set_cons_zero, List.set_cons_succ])
    refine takeA (i := 3) (oi := _) (v := ?vs3) (some 19) rfl rfl (by kernel_rfl) (by kernel_rfl) (by kernel_rfl) (fun _ a b _ e h => by cases a; cases b; cases e; exact h) (Or.inl ⟨by rfl, ?ys3⟩) ?rs3
    case ys3 => intro w'; go_simp; try with_reducible rfl
    (try simp only [fillA, Act.put, List.setIfInBounds_toArray, List.set_cons_zero, List.set_cons_succ])
    refine takeA (i := 4) (oi := _) (v := ?vs4) (some 20) rfl rfl (by kernel_rfl) (by kernel_rfl) (by kernel_rfl) (fun _ a b _ e h => by cases a; cases b; cases e; exact h) (Or.inl ⟨by rfl, ?ys4⟩) ?rs4
    case ys4 => intro w'; go_simp; try with_reducible rfl
    (try simp only [fillA, Act.put, List.setIfInBounds_toArray, List.set_cons_zero, List.set_cons_succ])
    refine takeA (i := 5) (oi := _) (v := ?vs5) (some 21) rfl rfl (by kernel_rfl) (by kernel_rfl) (by kernel_rfl) (fun _ a b _ e h => by cases a; cases b; cases e; exact h) (Or.inl ⟨by rfl, ?ys5⟩) ?rs5
    case ys5 => intro w'; go_simp; try with_reducible rfl
    (try simp only [fillA, Act.put, List.setIfInBounds_toArray, List.set_cons_zero, List.set_cons_succ])
    refine takeA (i := 7) (oi := _) (v := ?vs7) (some 23) rfl rfl (by kernel_rfl) (by kernel_rfl) (by kernel_rfl) (fun _ a b _ e h => by cases a; cases b; cases e; exact h) (Or.inl ⟨by rfl, ?ys7⟩) ?rs7
    case ys7 => intro w'; go_simp; try with_reducible rfl
    (try simp only [fillA, Act.put, List.setIfInBounds_toArray, List.set_cons_zero, List.set_cons_succ])
    refine takeA (i := 8) (oi := _) (v := ?vs8) (some 24) rfl rfl (by kernel_rfl) (by kernel_rfl) (by kernel_rfl) (fun _ a b _ e h => by cases a; cases b; cases e; exact h) (Or.inl ⟨by rfl, ?ys8⟩) ?rs8
    case ys8 => intro w'; go_simp; try with_reducible rfl
    (try simp only [fillA, Act.put, List.setIfInBounds_toArray, List.set_cons_zero, List.set_cons_succ])
    refine takeA (i := 9) (oi := _) (v := ?vs9) (some 25) rfl rfl (by kernel_rfl) (by kernel_rfl) (by kernel_rfl) (fun _ a b _ e h => by cases a; cases b; cases e; exact h) (Or.inl ⟨by rfl, ?ys9⟩) ?rs9
    case ys9 => intro w'; go_simp; try with_reducible rfl
    (try simp only [fillA, Act.put, List.setIfInBounds_toArray, List.set_cons_zero, List.set_cons_succ])
    refine takeA (i := 10) (oi := _) (v := ?vs10) (some 26) rfl rfl (by kernel_rfl) (by kernel_rfl) (by kernel_rfl) (fun _ a b _ e h => by cases a; cases b; cases e; exact h) (Or.inl ⟨by rfl, ?ys10⟩) ?rs10
    case ys10 => intro w'; go_simp; try with_reducible rfl
    (try simp only [fillA, Act.put, List.setIfInBounds_toArray, List.set_cons_zero, List.set_cons_succ])
    refine takeA (i := 11) (oi := _) (v := ?vs11) (some 27) rfl rfl (by kernel_rfl) (by kernel_rfl) (by kernel_rfl) (fun _ a b _ e h => by cases a; cases b; cases e; exact h) (Or.inl ⟨by rfl, ?ys11⟩) ?rs11
    case ys11 => intro w'; go_simp; try with_reducible rfl
    (try simp only [fillA, Act.put, List.setIfInBounds_toArray, List.set_cons_zero, List.set_cons_succ])
    have q1 : IntKind.i64.wrap ((s[k].toNat : Int) / 16) = ((x / 16 : Nat) : Int) := by rw [← hx]; rw [IntWalk.i64_in _ (by omega)]; omega
    have q2 : ((s[k].toNat : Int)).tmod 16 = ((x % 16 : Nat) : Int) := by rw [← hx, Int.tmod_eq_emod_of_nonneg (by omega)]; omega
    rw [q1, q2]
    clear q1 q2 w2 hx
    refine oneA 6 (oi := _) (some 22) (by kernel_rfl) rfl rfl rfl (fun K' hK => ?_)
    refine ⟨?_⟩
    go_simp
    refine (l01Figure_hex (x / 16) _ (by omega)).mono ?_
    rintro e w1 ⟨rfl, rfl⟩
    (try go_wp2_with fail)
    refine hK.out _ _ ⟨.int .u8 (hexDig (x / 16)), rfl⟩ ?_
    clear hK K'
    (try simp only [fillA, Act.put, List.setIfInBounds_toArray, List.set_cons_zero, List.set_cons_succ])
    refine oneA 12 (oi := _) (some 28) (by kernel_rfl) rfl rfl rfl (fun K' hK => ?_)
    refine ⟨?_⟩
    go_simp
    refine (l01Figure_hex (x % 16) _ (by omega)).mono ?_
    rintro e w2 ⟨rfl, rfl⟩
    (try go_wp2_with fail)
    refine hK.out _ _ ⟨.int .u8 (hexDig (x % 16)), rfl⟩ ?_
    clear hK K'
    (try simp only [fillA, Act.put, List.setIfInBounds_toArray, List.set_cons_zero, List.set_cons_succ])
    refine oneA 13 (oi := _) (some 29) (by kernel_rfl) rfl rfl rfl (fun K' hK => ?_)
    refine ⟨?_⟩
    go_simp
    refine hK.out _ _ ⟨.slice (some ⟨wr.heap.size, 0, none⟩) 2 2, rfl⟩ ?_
    clear hK K'
    (try simp only [fillA, Act.put, List.setIfInBounds_toArray, List.set_cons_zero, List.set_cons_succ])
    have NB := Lib.hid (show Blk (wr.alloc (.cells #[.int .u8 (hexDig (x / 16)), .int .u8 (hexDig (x % 16))] 5)).drew wr.heap.size 5 #[.int .u8 (hexDig (x / 16)), .int .u8 (hexDig (x % 16))] from Blk.new wr 5 #[.int .u8 (hexDig (x / 16)), .int .u8 (hexDig (x % 16))])
    have KD := Lib.hid (show (wr.alloc (.cells #[.int .u8 (hexDig (x / 16)), .int .u8 (hexDig (x % 16))] 5)).drew.ownsRow B 5 1 (.slice A' (2 * k) c') (2 * k) (bvals (hexL (s.data.toList.take k))) from World.ownsRow.alloc (w := wr) KO.out _)
    have XD := Lib.hid (show Ext w (wr.alloc (.cells #[.int .u8 (hexDig (x / 16)), .int .u8 (hexDig (x % 16))] 5)).drew from (Ext.new HX.out (.cells #[.int .u8 (hexDig (x / 16)), .int .u8 (hexDig (x % 16))] 5)).drew)
    have hBw : B ≤ wr.heap.size := by have := HX.out.size; have := HB.out; omega
    obtain ⟨g, hg⟩ : ∃ g, g = wr.heap.size := ⟨_, rfl⟩
    rw [← hg] at NB hBw
    rw [← hg]
    clear hg
    generalize (wr.alloc (.cells #[.int .u8 (hexDig (x / 16)), .int .u8 (hexDig (x % 16))] 5)).drew = w3 at *
    have hB3 : B ≤ w3.heap.size := by have := NB.out.lt; omega
    refine oneA 14 (oi := _) (some 30) (by kernel_rfl) rfl rfl rfl (fun K' hK => ?_)
    refine ⟨?_⟩
    rw [if_pos (by rfl)]
    refine wp_append_src (some 30) _ _ 103 (by rfl) (by rfl) B 5 i0 (.int .u8 0) 1 1 Tryd.underlying103 hinf hz0 hz1 hz2 rfl (by decide) (.slice A' (2 * k) c') (2 * k) (bvals (hexL (s.data.toList.take k))) (by rfl) KD.out (.slice (some ⟨g, 0, none⟩) 2 2) 2 [.int .u8 (hexDig (x / 16)), .int .u8 (hexDig (x % 16))] (by rfl) (Blk.src NB.out 2 1 2 rfl) (by intro u hu; simp at hu; rcases hu with rfl | rfl <;> rfl) ?_ ?_ ?_ (fun v' w4 hown' hgrow => ?_)
    · unfold maxLen; omega
    · omega
    · exact hB3
    have hx4 := Ext.ownGrown XD.out KD.out hgrow Hb
    have KO' := Lib.hid (show w4.ownsRow B 5 1 v' (2 * (k + 1)) (bvals (hexL (s.data.toList.take (k + 1)))) from by rw [Hn.out, show 2 * (k + 1) = 2 * k + 2 by omega]; simpa [bvals] using hown')
    obtain ⟨A4, c4, rfl, _⟩ := ownsRow_form KO'.out
    clear hown' hgrow KO KD XD NB HX
    refine hK.out _ _ ⟨_, rfl⟩ ?_
    clear hK K'
    (try simp only [fillA, Act.put, List.setIfInBounds_toArray, List.set_cons_zero, List.set_cons_succ])
    refine takeA (i := 15) (oi := _) (v := .slice A4 (2 * (k + 1)) c4) (some 4) rfl rfl (by kernel_rfl) (by kernel_rfl) (by kernel_rfl) (fun _ a b _ e h => by cases a; cases b; cases e; exact h) (Or.inl ⟨by rfl, ?ys15⟩) ?rs15
    case ys15 => intro w'; go_simp; try with_reducible rfl
    (try simp only [fillA, Act.put, List.setIfInBounds_toArray, List.set_cons_zero, List.set_cons_succ])
    refine wpAny_done (by kernel_rfl) ?_ _
    go_wp2_with fail
    go_roundw
    case rel => exact ⟨k + 1, by omega, by go_num, KO'.out, fun h => absurd h (by omega), hx4⟩
    case measure => simp [intOf]; omega
theorem made_row (w : World) (t : TypeId) (Z : Array Value) (c : Nat) (hZ : Z.size = c) (hc : c ≤ maxLen) : (w.alloc (.cells Z t)).ownsRow w.heap.size t 1 (.slice (some ⟨w.heap.size, 0, none⟩) 0 c) 0 [] :=
  ⟨by simp, .inr ⟨w.heap.size, c, Z, rfl, Nat.le_refl _, Blk.new w t Z, Nat.zero_le _, hc, by rw [hZ, Nat.mul_one], by simp⟩⟩
theorem digs_at (n : Nat) (h : n < 16) : (((⟨#[48, 49, 50, 51, 52, 53, 54, 55, 56, 57, 97, 98, 99, 100, 101, 102]⟩ : ByteArray)[n]'(by exact h)).toNat : Int) = hexDig n := by
  have : ∀ m : Fin 16, (((⟨#[48, 49, 50, 51, 52, 53, 54, 55, 56, 57, 97, 98, 99, 100, 101, 102]⟩ : ByteArray)[m.1]'(by exact m.2)).toNat : Int) = hexDig m.1 := by decide +kernel
  exact this ⟨n, h⟩
theorem and15 (x : Nat) (h : x < 256) : bits .and .u8 (x : Int) 15 = ((x % 16 : Nat) : Int) := by
  have : ∀ m : Fin 256, bits .and .u8 (m.1 : Int) 15 = ((m.1 % 16 : Nat) : Int) := by decide +kernel
  exact this ⟨x, h⟩
set_option maxHeartbeats 600000 in
set_option maxRecDepth 100000 in
theorem implHex_any (s : ByteArray) (w : World) (hs : s.size ≤ maxLen) : Calls Tryd.prog 22 #[.string s] w fun e w' => e = .returned (.tuple #[.string (if s.size ≤ 4000 then hexT s else ⟨#[]⟩), .bool (decide (s.size ≤ 4000))]) ∧ Ext w w' := by
  unfold maxLen at hs
  by_cases hb : s.size ≤ 4000
  case neg =>
    rw [if_neg hb, decide_eq_false hb]
    have d0 : decide ((4000 : Int) < (s.size : Int)) = true := by rw [decide_eq_true_eq]; omega
    go_enter Tryd.func22, Tryd.ntmps22
    go_wp2_with fail
    go_ret2
    exact ⟨rfl, Below.refl _ _⟩
  rw [if_pos hb, decide_eq_true hb]
  have d0 : decide ((4000 : Int) < (s.size : Int)) = false := by rw [decide_eq_false_iff_not]; omega
  obtain ⟨i0, hinf, hz0, hz1, hz2⟩ := info_parts info_u8
  have H0 := Lib.hid (made_row w 5 (madeCells #[.int .u8 0] (2 * s.size)) (2 * s.size) (size_madeCells _ _) (by unfold maxLen; omega))
  have He := Lib.hid (Ext.new (Below.refl w.heap.size w) (.cells (madeCells #[.int .u8 0] (2 * s.size)) 5))
  have hmk := run_make (P := Tryd.prog) w 103 5 i0 (.int .u8 0) Tryd.underlying103 hinf hz0 .i64 .i64 0 (2 * (s.size : Int)) (Int.le_refl _) (by omega) (by rw [hz2]; omega) (by omega)
  rw [hz1, show (2 * (s.size : Int)).toNat = 2 * s.size by omega, show (0 : Int).toNat = 0 from rfl] at hmk
  go_enter Tryd.func22, Tryd.ntmps22
  go_wp2_with fail
  obtain ⟨B, hB⟩ : ∃ B, B = w.heap.size := ⟨_, rfl⟩
  rw [← hB] at H0
  rw [← hB]
  have Hb : w.heap.size ≤ B := by omega
  have HB := Lib.hid hB
  clear hB
  clear hmk
  go_loopw [5, 6] (fun v x wr => ∃ k : Nat, k ≤ s.size ∧ x = .int .i64 k ∧ wr.ownsRow B 5 1 v (2 * k) (bvals (hexL (s.data.toList.take k))) ∧ (k = 0 → ∃ a c, v = .slice (some a) 0 c) ∧ Ext w wr) (fun _ x _ => s.size - (intOf x).toNat)
  case atStart => exact ⟨0, Nat.zero_le _, rfl, H0.out, fun _ => ⟨_, _, rfl⟩, He.out⟩
  case round =>
    clear H0 He
    obtain ⟨k, hk, rfl, hown, hz, he⟩ := hrel
    obtain ⟨A', c', rfl, hnc⟩ := ownsRow_form hown
    have KO := Lib.hid hown; have HZ := Lib.hid hz; have HX := Lib.hid he
    clear hown hz he
    by_cases hlt : k < s.size
    case neg =>
      obtain rfl : k = s.size := by omega
      have d1 : decide ((s.size : Int) < (s.size : Int)) = false := by simp
      have hown := KO.out
      rw [List.take_of_length_le (by simp)] at hown
      have hconv : (convert 103 9 (.slice A' (2 * s.size) c')).run Tryd.prog wr = .ok (.string (hexT s)) wr := by
        rcases Nat.eq_zero_or_pos s.size with h0 | h0
        · obtain ⟨a, c2, ha⟩ := HZ.out h0
          obtain ⟨rfl, h1, rfl⟩ : A' = some a ∧ 2 * s.size = 0 ∧ c' = c2 := by simpa using ha
          rw [h1]
          have e : hexT s = ofInts [] := by
            have : s.data.toList = [] := List.eq_nil_of_length_eq_zero (by simpa using h0)
            rw [hexT, this]; rfl
          rw [e]
          exact string0b _ _ _
        · exact own_string (n := 2 * s.size) (by rw [hexL_len]; simp) hown (by omega) (hexL_rng _)
      clear KO hown
      go_wp2_with fail
      go_ret2
      exact ⟨rfl, HX.out⟩
    have d1 : decide ((k : Int) < (s.size : Int)) = true := by rw [decide_eq_true_eq]; omega
    have Hn := Lib.hid (hexL_next hlt)
    have hc := (s[k]).toNat_lt
    have hw : IntKind.i64.wrap (k : Int) = (k : Int) := IntWalk.i64_in _ (by omega)
    have p0 : (0 : Int) ≤ (k : Int) := by omega
    have p1 : (k : Int) < (s.size : Int) := by omega
    obtain ⟨x, hx⟩ : ∃ x, x = s[k].toNat := ⟨_, rfl⟩
    rw [← hx] at hc Hn
    have w2 : IntKind.i64.wrap ((s[k].toNat : Nat) : Int) = (x : Int) := by rw [← hx]; exact IntWalk.i64_in _ (by omega)
    go_wp2_with fail
    refine wp_region_any (by kernel_rfl) ?_
    change wpAny _ _ _ _ _ _ _ (World.drew _)
    refine takeA (i := 0) (oi := _) (v := ?vm0) (some 20) rfl rfl (by kernel_rfl) (by kernel_rfl) (by kernel_rfl) (fun _ a b _ e h => by cases a; cases b; cases e; exact h) (Or.inl ⟨by rfl, ?ym0⟩) ?rm0
    case ym0 => intro w'; go_simp; try with_reducible rfl
    (try simp only [fillA, Act.put, List.setIfInBounds_toArray, List.set_cons_zero, List.set_cons_succ])
    refine takeA (i := 1) (oi := _) (v := ?vm1) (some 21) rfl rfl (by kernel_rfl) (by kernel_rfl) (by kernel_rfl) (fun _ a b _ e h => by cases a; cases b; cases e; exact h) (Or.inl ⟨by rfl, ?ym1⟩) ?rm1
    case ym1 => intro w'; go_simp; try with_reducible rfl
    (try simp only [fillA, Act.put, List.setIfInBounds_toArray, List.set_cons_zero, List.set_cons_succ])
    refine takeA (i := 2) (oi := _) (v := ?vm2) (some 22) rfl rfl (by kernel_rfl) (by kernel_rfl) (by kernel_rfl) (fun _ a b _ e h => by cases a; cases b; cases e; exact h) (Or.inl ⟨by rfl, ?ym2⟩) ?rm2
    case ym2 => intro w'; go_simp; try with_reducible rfl
    (try simp only [fillA, Act.put, List.setIfInBounds_toArray, List.set_cons_zero, List.set_cons_succ])
    refine takeA (i := 3) (oi := _) (v := ?vm3) (some 23) rfl rfl (by kernel_rfl) (by kernel_rfl) (by kernel_rfl) (fun _ a b _ e h => by cases a; cases b; cases e; exact h) (Or.inl ⟨by rfl, ?ym3⟩) ?rm3
    case ym3 => intro w'; go_simp; try with_reducible rfl
    (try simp only [fillA, Act.put, List.setIfInBounds_toArray, List.set_cons_zero, List.set_cons_succ])
    refine takeA (i := 4) (oi := _) (v := ?vm4) (some 24) rfl rfl (by kernel_rfl) (by kernel_rfl) (by kernel_rfl) (fun _ a b _ e h => by cases a; cases b; cases e; exact h) (Or.inl ⟨by rfl, ?ym4⟩) ?rm4
    case ym4 => intro w'; go_simp; try with_reducible rfl
    (try simp only [fillA, Act.put, List.setIfInBounds_toArray, List.set_cons_zero, List.set_cons_succ])
    refine takeA (i := 5) (oi := _) (v := ?vm5) (some 25) rfl rfl (by kernel_rfl) (by kernel_rfl) (by kernel_rfl) (fun _ a b _ e h => by cases a; cases b; cases e; exact h) (Or.inl ⟨by rfl, ?ym5⟩) ?rm5
    case ym5 => intro w'; go_simp; try with_reducible rfl
    (try simp only [fillA, Act.put, List.setIfInBounds_toArray, List.set_cons_zero, List.set_cons_succ])
    refine takeA (i := 7) (oi := _) (v := ?vm7) (some 27) rfl rfl (by kernel_rfl) (by kernel_rfl) (by kernel_rfl) (fun _ a b _ e h => by cases a; cases b; cases e; exact h) (Or.inl ⟨by rfl, ?ym7⟩) ?rm7
    case ym7 => intro w'; go_simp; try with_reducible rfl
    (try simp only [fillA, Act.put, List.setIfInBounds_toArray, List.set_cons_zero, List.set_cons_succ])
    refine takeA (i := 8) (oi := _) (v := ?vm8) (some 28) rfl rfl (by kernel_rfl) (by kernel_rfl) (by kernel_rfl) (fun _ a b _ e h => by cases a; cases b; cases e; exact h) (Or.inl ⟨by rfl, ?ym8⟩) ?rm8
    case ym8 => intro w'; go_simp; try with_reducible rfl
    (try simp only [fillA, Act.put, List.setIfInBounds_toArray, List.set_cons_zero, List.set_cons_succ])
    refine takeA (i := 9) (oi := _) (v := ?vm9) (some 29) rfl rfl (by kernel_rfl) (by kernel_rfl) (by kernel_rfl) (fun _ a b _ e h => by cases a; cases b; cases e; exact h) (Or.inl ⟨by rfl, ?ym9⟩) ?rm9
    case ym9 => intro w'; go_simp; try with_reducible rfl
    (try simp only [fillA, Act.put, List.setIfInBounds_toArray, List.set_cons_zero, List.set_cons_succ])
    refine takeA (i := 10) (oi := _) (v := ?vm10) (some 30) rfl rfl (by kernel_rfl) (by kernel_rfl) (by kernel_rfl) (fun _ a b _ e h => by cases a; cases b; cases e; exact h) (Or.inl ⟨by rfl, ?ym10⟩) ?rm10
    case ym10 => intro w'; go_simp; try with_reducible rfl
    (try simp only [fillA, Act.put, List.setIfInBounds_toArray, List.set_cons_zero, List.set_cons_succ])
    refine takeA (i := 11) (oi := _) (v := ?vm11) (some 31) rfl rfl (by kernel_rfl) (by kernel_rfl) (by kernel_rfl) (fun _ a b _ e h => by cases a; cases b; cases e; exact h) (Or.inl ⟨by rfl, ?ym11⟩) ?rm11
    case ym11 => intro w'; go_simp; try with_reducible rfl
    (try simp only [fillA, Act.put, List.setIfInBounds_toArray, List.set_cons_zero, List.set_cons_succ])
    obtain ⟨a, ha⟩ : ∃ a, a = x / 16 := ⟨_, rfl⟩
    obtain ⟨b, hb2⟩ : ∃ b, b = x % 16 := ⟨_, rfl⟩
    have q1 : (s[k].toNat : Int) / 16 = (a : Int) := by rw [← hx, ha]; omega
    have q2 : bits .and .u8 (s[k].toNat : Int) 15 = (b : Int) := by rw [← hx, hb2]; exact and15 x hc
    have ha6 : a < 16 := by omega
    have hb6 : b < 16 := by omega
    rw [q1, q2]
    rw [← ha, ← hb2] at Hn
    clear q1 q2 w2 hx ha hb2
    have hda := digs_at a ha6
    have pa : (a : Int) < 16 := by omega
    have pb : (b : Int) < 16 := by omega
    have pa0 : (0 : Int) ≤ (a : Int) := by omega
    have pb0 : (0 : Int) ≤ (b : Int) := by omega
    have hdb := digs_at b hb6
    have wa : IntKind.i64.wrap (a : Int) = (a : Int) := IntWalk.i64_in _ (by omega)
    have wb : IntKind.i64.wrap (b : Int) = (b : Int) := IntWalk.i64_in _ (by omega)
    refine takeA (i := 6) (oi := _) (v := .int .u8 (hexDig a)) (some 26) rfl rfl (by kernel_rfl) (by kernel_rfl) (by kernel_rfl) (fun _ a b _ e h => by cases a; cases b; cases e; exact h) (Or.inl ⟨by rfl, ?ym6⟩) ?rm6
    case ym6 => intro w'; go_simp; try with_reducible rfl
    (try simp only [fillA, Act.put, List.setIfInBounds_toArray, List.set_cons_zero, List.set_cons_succ])
    refine takeA (i := 12) (oi := _) (v := .int .u8 (hexDig b)) (some 32) rfl rfl (by kernel_rfl) (by kernel_rfl) (by kernel_rfl) (fun _ a b _ e h => by cases a; cases b; cases e; exact h) (Or.inl ⟨by rfl, ?ym12⟩) ?rm12
    case ym12 => intro w'; go_simp; try with_reducible rfl
    (try simp only [fillA, Act.put, List.setIfInBounds_toArray, List.set_cons_zero, List.set_cons_succ])
    refine oneA 13 (oi := _) (some 33) (by kernel_rfl) rfl rfl rfl (fun K' hK => ?_)
    refine ⟨?_⟩
    go_simp
    refine hK.out _ _ ⟨.slice (some ⟨wr.heap.size, 0, none⟩) 2 2, rfl⟩ ?_
    clear hK K'
    (try simp only [fillA, Act.put, List.setIfInBounds_toArray, List.set_cons_zero, List.set_cons_succ])
    have NB := Lib.hid (show Blk (wr.alloc (.cells #[.int .u8 (hexDig a), .int .u8 (hexDig b)] 5)).drew wr.heap.size 5 #[.int .u8 (hexDig a), .int .u8 (hexDig b)] from Blk.new wr 5 #[.int .u8 (hexDig a), .int .u8 (hexDig b)])
    have KD := Lib.hid (show (wr.alloc (.cells #[.int .u8 (hexDig a), .int .u8 (hexDig b)] 5)).drew.ownsRow B 5 1 (.slice A' (2 * k) c') (2 * k) (bvals (hexL (s.data.toList.take k))) from World.ownsRow.alloc (w := wr) KO.out _)
    have XD := Lib.hid (show Ext w (wr.alloc (.cells #[.int .u8 (hexDig a), .int .u8 (hexDig b)] 5)).drew from (Ext.new HX.out (.cells #[.int .u8 (hexDig a), .int .u8 (hexDig b)] 5)).drew)
    have hBw : B ≤ wr.heap.size := by have := HX.out.size; have := HB.out; omega
    obtain ⟨g, hg⟩ : ∃ g, g = wr.heap.size := ⟨_, rfl⟩
    rw [← hg] at NB hBw
    rw [← hg]
    clear hg
    generalize (wr.alloc (.cells #[.int .u8 (hexDig a), .int .u8 (hexDig b)] 5)).drew = w3 at *
    have hB3 : B ≤ w3.heap.size := by have := NB.out.lt; omega
    refine oneA 14 (oi := _) (some 34) (by kernel_rfl) rfl rfl rfl (fun K' hK => ?_)
    refine ⟨?_⟩
    rw [if_pos (by rfl)]
    refine wp_append_src (some 34) _ _ 103 (by rfl) (by rfl) B 5 i0 (.int .u8 0) 1 1 Tryd.underlying103 hinf hz0 hz1 hz2 rfl (by decide) (.slice A' (2 * k) c') (2 * k) (bvals (hexL (s.data.toList.take k))) (by rfl) KD.out (.slice (some ⟨g, 0, none⟩) 2 2) 2 [.int .u8 (hexDig a), .int .u8 (hexDig b)] (by rfl) (Blk.src NB.out 2 1 2 rfl) (by intro u hu; simp at hu; rcases hu with rfl | rfl <;> rfl) ?_ ?_ ?_ (fun v' w4 hown' hgrow => ?_)
    · unfold maxLen; omega
    · omega
    · exact hB3
    have hx4 := Ext.ownGrown XD.out KD.out hgrow Hb
    have KO' := Lib.hid (show w4.ownsRow B 5 1 v' (2 * (k + 1)) (bvals (hexL (s.data.toList.take (k + 1)))) from by rw [Hn.out, show 2 * (k + 1) = 2 * k + 2 by omega]; simpa [bvals] using hown')
    obtain ⟨A4, c4, rfl, _⟩ := ownsRow_form KO'.out
    clear hown' hgrow KO KD XD NB HX
    refine hK.out _ _ ⟨_, rfl⟩ ?_
    clear hK K'
    (try simp only [fillA, Act.put, List.setIfInBounds_toArray, List.set_cons_zero, List.set_cons_succ])
    refine takeA (i := 15) (oi := _) (v := .slice A4 (2 * (k + 1)) c4) (some 5) rfl rfl (by kernel_rfl) (by kernel_rfl) (by kernel_rfl) (fun _ a b _ e h => by cases a; cases b; cases e; exact h) (Or.inl ⟨by rfl, ?ym15⟩) ?rm15
    case ym15 => intro w'; go_simp; try with_reducible rfl
    (try simp only [fillA, Act.put, List.setIfInBounds_toArray, List.set_cons_zero, List.set_cons_succ])
    refine wpAny_done (by kernel_rfl) ?_ _
    go_wp2_with fail
    go_roundw
    case rel => exact ⟨k + 1, by omega, by go_num, KO'.out, fun h => absurd h (by omega), hx4⟩
    case measure => simp [intOf]; omega
end Go.Proofs.YtichegndafnjeaaDoor
