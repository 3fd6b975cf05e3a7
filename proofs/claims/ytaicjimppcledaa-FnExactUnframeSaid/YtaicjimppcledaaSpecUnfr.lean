/-
  The reference's Unframe: walk. No condition.
-/
import Derived.Test.YtaicjimppcledaaUnfrLaw
namespace Go.Proofs.Ytaicjimppcledaa
open Go.RowKit
set_option linter.unusedVariables false

theorem faOk_short {T : ByteArray} {p : Nat} (h : ¬ p + 6 + faN T p ≤ T.size) : faOk T p = false := by
  cases b : faOk T p
  · rfl
  · exact absurd (fa_bad b) h
theorem frameOut_le (T : ByteArray) : (frameOut T).size ≤ T.size + 6 := by
  unfold frameOut
  split
  · rename_i h
    have := dig4_size h
    have := lowB_size T.size 2
    rw [frameB, ByteArray.size_append, ByteArray.size_append]; omega
  · exact Nat.zero_le _
set_option maxHeartbeats 4000000 in
set_option maxRecDepth 100000 in
theorem specUnframe_any (T : ByteArray) (w : World) (hT : T.size ≤ 1099511627776) :
    Calls Try.prog 37 #[.string T] w fun e w' => ∃ v, e = .returned (.tuple #[v, .int .i64 ((unf T).2 : Int)]) ∧ OwnS w w' v (unf T).1 ∧ Ext w w' := by
  by_cases hbig : 300000 < T.size
  · have E := Lib.hid (show unf T = ([], 0) by rw [unf, if_neg (by omega)])
    have H0 := Lib.hid (ownsRow_empty w 9 1)
    have HE := Lib.hid (Ext.new (Below.refl w.heap.size w) (.cells #[] 9))
    go_enter Try.func37, Try.ntmps37
    go_wp2_with fail
    go_ret2
    exact ⟨_, by rw [E.out]; rfl, by rw [E.out]; exact H0.out, HE.out⟩
  obtain ⟨fin, hfin⟩ : ∃ fin, fin = unf T := ⟨_, rfl⟩
  have Hi : UInv T fin [] 0 := by rw [hfin, unf, if_pos (by omega)]; exact ⟨by simp, Nat.zero_le _, rfl, rfl⟩
  rw [← hfin]
  clear hfin
  obtain ⟨i0, hi, hz0, hz1, hz2⟩ := info_parts info_str
  have H0 := Lib.hid (ownsRow_empty w 9 1)
  have HE := Lib.hid (Ext.new (Below.refl w.heap.size w) (.cells #[] 9))
  go_enter Try.func37, Try.ntmps37
  go_wp2_with fail
  obtain ⟨B, hB⟩ : ∃ B, B = w.heap.size := ⟨_, rfl⟩
  rw [← hB] at H0
  rw [← hB]
  have Hb : w.heap.size ≤ B := by omega
  have HB := Lib.hid hB
  clear hB
  go_loopw [4, 5] (fun v x wr => ∃ (l : List ByteArray) (p : Nat), UInv T fin l p ∧ x = .int .i64 (p : Int) ∧ wr.ownsRow B 9 1 v l.length (svals l) ∧ Ext w wr) (fun _ x _ => T.size - (intOf x).toNat)
  case atStart => exact ⟨[], 0, Hi, rfl, H0.out, HE.out⟩
  case round =>
    clear H0 HE Hi
    obtain ⟨l, p, hu, rfl, hown, he⟩ := hrel
    obtain ⟨A, c, rfl, hnc⟩ := ownsRow_form hown
    have KO := Lib.hid hown
    clear hown
    have hul := hu.len
    have hup := hu.pos
    by_cases hlt : l.length < 600
    case neg =>
      have d1 : decide ((l.length : Int) < 600) = false := by rw [decide_eq_false_iff_not]; omega
      obtain ⟨e1, e2⟩ := hu.done (by omega)
      have HF : Hid (OwnS w wr (.slice A l.length c) fin.1) := Lib.hid (by have := KO.out; rw [HB.out, e1] at this; unfold OwnS; rw [e1]; exact this)
      have HP := Lib.hid e2
      clear e1 e2 hu KO
      go_wp2_with fail
      go_ret2
      exact ⟨_, by show Ending.returned (.tuple #[.slice A l.length c, .int .i64 (p : Int)]) = _; rw [HP.out], HF.out, he⟩
    have d1 : decide ((l.length : Int) < 600) = true := by rw [decide_eq_true_eq]; omega
    by_cases hs6 : p + 6 ≤ T.size
    case neg =>
      have d2 : decide ((6 : Int) ≤ (T.size : Int) - (p : Int)) = false := by rw [decide_eq_false_iff_not]; omega
      obtain ⟨e1, e2⟩ := hu.stop hlt (faOk_short (by omega))
      have HF : Hid (OwnS w wr (.slice A l.length c) fin.1) := Lib.hid (by have := KO.out; rw [HB.out, e1] at this; unfold OwnS; rw [e1]; exact this)
      have HP := Lib.hid e2
      clear e1 e2 hu KO
      go_wp2_with fail
      go_ret2
      exact ⟨_, by show Ending.returned (.tuple #[.slice A l.length c, .int .i64 (p : Int)]) = _; rw [HP.out], HF.out, he⟩
    have d2 : decide ((6 : Int) ≤ (T.size : Int) - (p : Int)) = true := by rw [decide_eq_true_eq]; omega
    have p4 : p < T.size := by omega
    have p5 : p + 1 < T.size := by omega
    have hN := faN_two hs6
    have x1 := (T[p]'p4).toNat_lt
    have x2 := (T[p + 1]'p5).toNat_lt
    obtain ⟨N, hNe⟩ : ∃ N, N = faN T p := ⟨_, rfl⟩
    rw [← hNe] at hN
    have hNl : N < 65536 := by omega
    have w5 : IntKind.i64.wrap (256 * ((T[p]'p4).toNat : Int) + ((T[p + 1]'p5).toNat : Int)) = (N : Int) := by rw [hN]; rw [IntWalk.i64_in _ (by omega)]; omega
    have w4 : IntKind.i64.wrap (256 * ((T[p]'p4).toNat : Int)) = 256 * ((T[p]'p4).toNat : Int) := IntWalk.i64_in _ (by omega)
    have w3 : IntKind.i64.wrap ((T[p + 1]'p5).toNat : Int) = ((T[p + 1]'p5).toNat : Int) := IntWalk.i64_in _ (by omega)
    have w2 : IntKind.i64.wrap ((T[p]'p4).toNat : Int) = ((T[p]'p4).toNat : Int) := IntWalk.i64_in _ (by omega)
    have w1 : IntKind.i64.wrap ((p : Int) + 1) = (p : Int) + 1 := IntWalk.i64_in _ (by omega)
    have p0 : (0 : Int) ≤ (p : Int) := by omega
    have p1 : (p : Int) < (T.size : Int) := by omega
    have p2 : (p : Int) + 1 < (T.size : Int) := by omega
    have p3 : (0 : Int) ≤ (p : Int) + 1 := by omega
    have HNe := Lib.hid hNe
    clear hN x1 x2 hNe
    go_wp2_with fail
    go_quiet (fail)
    clear w1 w2 w3 w4 w5
    replace he := he.drewN nq
    have KO1 : Hid ((wr.drewN nq).ownsRow B 9 1 (.slice A l.length c) l.length (svals l)) := Lib.hid KO.out
    clear KO
    generalize wr.drewN nq = w1 at *
    by_cases hfit : p + 6 + N ≤ T.size
    case neg =>
      have d3 : decide ((T.size : Int) - (p : Int) - 6 < (N : Int)) = true := by rw [decide_eq_true_eq]; omega
      obtain ⟨e1, e2⟩ := hu.stop hlt (faOk_short (by rw [← HNe.out]; exact hfit))
      have HF : Hid (OwnS w w1 (.slice A l.length c) fin.1) := Lib.hid (by have := KO1.out; rw [HB.out, e1] at this; unfold OwnS; rw [e1]; exact this)
      have HP := Lib.hid e2
      clear e1 e2 hu KO1
      go_wp2_with fail
      go_ret2
      exact ⟨_, by show Ending.returned (.tuple #[.slice A l.length c, .int .i64 (p : Int)]) = _; rw [HP.out], HF.out, he⟩
    have d3 : decide ((T.size : Int) - (p : Int) - 6 < (N : Int)) = false := by rw [decide_eq_false_iff_not]; omega
    have Hx := Lib.hid (fa_all (T := T) (p := p) (by rw [← HNe.out]; exact hfit)).2
    have Ht := Lib.hid (fa_test (T := T) (p := p) (by rw [← HNe.out]; exact hfit))
    rw [← HNe.out] at Hx Ht
    have e6 : ((p : Int) + 6 + (N : Int)).toNat = p + 6 + N := by omega
    have hxs : (T.extract (p + 6) (p + 6 + N)).size = N := by rw [ByteArray.size_extract]; omega
    obtain ⟨x, hx⟩ : ∃ x, x = T.extract (p + 6) (p + 6 + N) := ⟨_, rfl⟩
    rw [← hx] at Hx hxs
    have hfl := frameOut_le x
    have Hfl := Lib.hid hfl
    have Hxs := Lib.hid hxs
    clear hfl
    go_wp2_with fail
    rw [← hx]
    clear hx
    refine (specFrame_any x _ (by unfold maxLen; omega)).mono ?_
    rintro e w2 ⟨rfl, h1⟩
    replace he := he.next h1
    have KO2 := Lib.hid (ownsRow_ext KO1.out h1)
    clear h1 KO1
    rw [hxs]
    clear hxs
    obtain ⟨fo, hfo⟩ : ∃ fo, fo = frameOut x := ⟨_, rfl⟩
    have Ht2 := Lib.hid (show faOk T p = (inR (N : Int) 1 1000 && (fo.toList == (T.extract p (p + 6 + N)).toList)) by rw [Ht.out, Hx.out, hfo])
    rw [← hfo]
    clear hfo Ht
    cases bin : inR (N : Int) 1 1000
    case false =>
      obtain ⟨e1, e2⟩ := hu.stop hlt (by rw [Ht2.out, bin]; rfl)
      have HF : Hid (OwnS w w2 (.slice A l.length c) fin.1) := Lib.hid (by have := KO2.out; rw [HB.out, e1] at this; unfold OwnS; rw [e1]; exact this)
      have HP := Lib.hid e2
      clear e1 e2 hu KO2
      go_wp2_with fail
      go_ret2
      exact ⟨_, by show Ending.returned (.tuple #[.slice A l.length c, .int .i64 (p : Int)]) = _; rw [HP.out], HF.out, he⟩
    cases beq : (fo.toList == (T.extract p (p + 6 + N)).toList)
    case false =>
      obtain ⟨e1, e2⟩ := hu.stop hlt (by rw [Ht2.out, bin, beq]; rfl)
      have HF : Hid (OwnS w w2 (.slice A l.length c) fin.1) := Lib.hid (by have := KO2.out; rw [HB.out, e1] at this; unfold OwnS; rw [e1]; exact this)
      have HP := Lib.hid e2
      clear e1 e2 hu KO2
      go_wp2_with fail
      go_ret2
      exact ⟨_, by show Ending.returned (.tuple #[.slice A l.length c, .int .i64 (p : Int)]) = _; rw [HP.out], HF.out, he⟩
    have hok : faOk T p = true := by rw [Ht2.out, bin, beq]; rfl
    have hq := faOk_pos hok
    rw [← HNe.out] at hq
    have Hu := Lib.hid (show UInv T fin (l ++ [x]) (p + 6 + N) by have := hu.step hlt hok; rwa [Hx.out, hq.1] at this)
    clear hu hok hq
    have hB2 : B ≤ w2.heap.size := by have := he.size; have := HB.out; omega
    go_wp2_with (at_builtin; refine wpList_append_own _ rfl _ _ 59 rfl B 9 i0 (.string ⟨#[]⟩) 1 16 Try.underlying59 hi hz0 hz1 hz2 rfl (by decide) _ _ _ rfl (KO2.out.alloc _) ⟨w2.heap.size, 0, none⟩ 1 1 [.string x] rfl rfl ?c1 ?c2 ?c3 ?c4 ?c5 ?_)
    case c1 => exact one_at _ _ _
    case c2 => exact one_cell rfl
    case c3 => unfold maxLen; omega
    case c4 => omega
    case c5 => simp; omega
    intro v' w3 hown' hgrow _
    have he1 := Ext.ownGrown (Ext.new he _) (KO2.out.alloc _) hgrow Hb
    rw [svals_snoc] at hown'
    have KO' := Lib.hid hown'
    clear hown' hgrow KO2 he
    go_wp2_with fail
    go_roundw
    case rel => exact ⟨l ++ [x], p + 6 + N, Hu.out, congrArg (Value.int .i64) (by omega), by have := KO'.out; simpa using this, he1⟩
    case measure => simp [intOf]; omega
end Go.Proofs.Ytaicjimppcledaa
