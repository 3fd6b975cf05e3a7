/-
  The reference's drawing: two heads. Written by program (gen_draw6.py). No condition.
-/
import Derived.Test.YteaphajagmbllaaDraw5
namespace Go.Proofs.Yteaphajagmbllaa
open Go.RowKit
set_option linter.unusedVariables false
set_option linter.unusedSimpArgs false

theorem emptyR_le (n : Int) : (emptyR n).size ≤ 32 := by
  unfold emptyR
  cases b : digestOk n 5 ⟨#[]⟩
  · rw [digest_no b]; decide
  · rw [digest_size b]
    have : inR n 1 32 = true := by simp only [digestOk, Bool.and_eq_true] at b; exact b.1.1
    have := inR_true this
    omega
set_option maxHeartbeats 8000000 in
set_option maxRecDepth 100000 in
theorem l10Head_any (B g : Nat) (A : Option Addr) (c : Nat) (l : List Int) (n : Nat) (w : World) (h1 : 1 ≤ n) (h2 : n ≤ 32) (hC : CurAt w B g A c l) :
    Calls Try.prog 54 #[.pointer (some ⟨g, 0, none⟩), .int .i64 (n : Int)] w fun e w' => ∃ h : HeadD, h.Ok ∧ e = .returned (.agg #[.int .i64 h.number, .int .i64 h.size, .string h.root, .int .i64 h.taken, .string h.takenRoot]) ∧ CurAt w' B g A c l ∧ ExtBut g w w' := by
  have hin : inR (n : Int) 1 32 = true := by simp [inR]; omega
  have hg := hC.lt
  have hBg := hC.1
  have R0 := Blk.new w 42 #[.int .i64 0, .int .i64 0, .string ⟨#[]⟩, .int .i64 0, .string ⟨#[]⟩]
  have C0 := hC.alloc (.cells #[.int .i64 0, .int .i64 0, .string ⟨#[]⟩, .int .i64 0, .string ⟨#[]⟩] 42)
  have E0 := (ExtBut.refl g w).alloc (.cells #[.int .i64 0, .int .i64 0, .string ⟨#[]⟩, .int .i64 0, .string ⟨#[]⟩] 42)
  clear hC
  go_enter Try.func54, Try.ntmps54
  go_wp2_with fail
  obtain ⟨r, hr⟩ : ∃ r, r = w.heap.size := ⟨_, rfl⟩
  rw [← hr] at R0
  rw [← hr]
  have hwr : w.heap.size ≤ r := by omega
  have hrg : r ≠ g := by omega
  clear hr
  generalize w.alloc (.cells #[.int .i64 0, .int .i64 0, .string ⟨#[]⟩, .int .i64 0, .string ⟨#[]⟩] 42) = w0 at *
  refine (specHeadNew_any n _).mono ?_
  rintro e w1 ⟨rfl, e1⟩
  rw [hin, newH_yes]
  replace R0 := R0.ext e1; replace C0 := C0.ext e1; replace E0 := E0.next (ExtBut.of_ext e1)
  have hem := emptyR_le (n : Int)
  clear e1
  generalize emptyR (n : Int) = eR at *
  go_wp2_with fail
  have K : LH w B g r w1.heap.size A c l ⟨0, 0, eR, 0, eR⟩ (w1.alloc (.cells #[.int .i64 0, .int .i64 0, .string eR, .int .i64 0, .string eR] 42)) := ⟨C0.alloc _, Blk.new w1 42 _, R0.alloc _, E0.alloc _⟩
  have hrl := R0.lt
  have hgl := C0.lt
  obtain ⟨v, hv⟩ : ∃ v, v = w1.heap.size := ⟨_, rfl⟩
  rw [← hv] at K hrl hgl
  rw [← hv]
  have hvg : v ≠ g := by omega
  have hgv : g ≠ v := by omega
  have hrv : r ≠ v := by omega
  have hwv : w.heap.size ≤ v := by omega
  have hBv : B ≤ v := by omega
  clear hv R0 C0 E0 hrl hgl
  generalize w1.alloc (.cells #[.int .i64 0, .int .i64 0, .string eR, .int .i64 0, .string eR] 42) = w2 at *
  refine (l01Below_any B g A c l 6 _ (by decide) (by decide) K.1).mono ?_
  rintro e w3 ⟨x, ⟨hx0, hx1⟩, rfl, C1, k1⟩
  replace K := K.call hrg hvg C1 k1
  clear C1 k1
  obtain ⟨hc, hf⟩ := K.2.1.rules
  go_upto_region 6 with fail
  clear hc hf
  replace K := LH.set_ K hwv hBv hgv hrv 0 (.int .i64 x) ⟨x, 0, eR, 0, eR⟩ rfl
  generalize w3.setCell ⟨v, 0, none⟩ (.int .i64 x) = w4 at *
  have hi : HeadIn ⟨x, 0, eR, 0, eR⟩ := ⟨⟨by show -1 ≤ x; omega, by show x ≤ 600; omega⟩, ⟨by show (-1 : Int) ≤ 0; decide, by show (0 : Int) ≤ 600; decide⟩, by show eR.size ≤ 40; omega, ⟨by show (-1 : Int) ≤ 0; decide, by show (0 : Int) ≤ 600; decide⟩, by show eR.size ≤ 40; omega⟩
  obtain ⟨h, hh⟩ : ∃ h : HeadD, h = ⟨x, 0, eR, 0, eR⟩ := ⟨_, rfl⟩
  rw [← hh] at hi K
  clear hh hx0 hx1 hem
  go_wp2_with fail
  refine (l01Once_any B g A c l 4 _ (by decide) (by decide) K.1).mono ?_
  rintro e wa ⟨b, rfl, C1, k1⟩
  replace K := K.call hrg hvg C1 k1
  clear C1 k1
  go_upto_if 20 with fail
  go_cut [1] (fun y wx => y = .int .i64 (n : Int) ∧ ∃ h, HeadIn h ∧ LH w B g r v A c l h wx)
  case first =>
    cases b
    case true =>
      go_wp2_with fail
      go_meet
      case rel => exact ⟨rfl, h, hi, K⟩
    go_wp2_with fail
    refine (l01Below_any B g A c l 6 _ (by decide) (by decide) K.1).mono ?_
    rintro e wb ⟨x, ⟨hx0, hx1⟩, rfl, C1, k1⟩
    replace K := K.call hrg hvg C1 k1
    clear C1 k1
    obtain ⟨hc, hf⟩ := K.2.1.rules
    go_upto_region 8 with fail
    clear hc hf
    replace K := LH.set_ K hwv hBv hgv hrv 1 (.int .i64 (1 + x)) ⟨h.number, 1 + x, h.root, h.taken, h.takenRoot⟩ rfl
    generalize wb.setCell ⟨v, 1, none⟩ (.int .i64 (1 + x)) = wc at *
    obtain ⟨y, hy⟩ : ∃ y, y = 1 + x := ⟨_, rfl⟩
    rw [← hy] at K
    rw [← hy]
    have hy0 : 1 ≤ y := by omega
    have hy1 : y ≤ 6 := by omega
    clear hy hx0 hx1
    refine wp_region_held_drew (S := fun wx => ∃ s : ByteArray, s.size ≤ 40 ∧ LH w B g r v A c l ⟨h.number, y, s, h.taken, h.takenRoot⟩ wx) (by kernel_rfl) ⟨_, ?_, LH.ext K ⟨rfl, rfl, rfl, Nat.le_refl _, fun _ _ => rfl⟩⟩ (fun hHeld => ?_)
    · have := hi.2.2.1; have := hi.2.2.2.2; (try dsimp only); omega
    clear K
    refine wpAnyH_take (i := 0) (oi := _) (v := ?tv1) rfl (by kernel_rfl) (by kernel_rfl) (by kernel_rfl) (fun _ _ _ h => h) (Or.inl ⟨by first | (go_simp; done) | rfl, ?ty1⟩) hHeld ?tr1
    case ty1 => (intro w9 h9; go_simp; (try with_reducible rfl))
    case tr1 =>
    (try simp only [Act.put, List.getElem_toArray, List.getElem_cons_zero, List.getElem_cons_succ, List.setIfInBounds_toArray, List.set_cons_zero, List.set_cons_succ])
    refine wpAnyH_take (i := 1) (oi := _) (v := ?tv2) rfl (by kernel_rfl) (by kernel_rfl) (by kernel_rfl) (fun _ _ _ h => h) (Or.inl ⟨by first | (go_simp; done) | rfl, ?ty2⟩) hHeld ?tr2
    case ty2 => (intro w9 h9; go_simp; (try with_reducible rfl))
    case tr2 =>
    (try simp only [Act.put, List.getElem_toArray, List.getElem_cons_zero, List.getElem_cons_succ, List.setIfInBounds_toArray, List.set_cons_zero, List.set_cons_succ])
    refine wpAnyH_take (i := 2) (oi := _) (v := ?tv3) rfl (by kernel_rfl) (by kernel_rfl) (by kernel_rfl) (fun _ _ _ h => h) (Or.inl ⟨by first | (go_simp; done) | rfl, ?ty3⟩) hHeld ?tr3
    case ty3 => (intro w9 h9; obtain ⟨s9, hs9, L9⟩ := h9; have q9 : w9.cell? ⟨v, 1, none⟩ = some (.int .i64 y) := L9.2.1.cell 1; clear L9; go_simp; (try with_reducible rfl))
    case tr3 =>
    (try simp only [Act.put, List.getElem_toArray, List.getElem_cons_zero, List.getElem_cons_succ, List.setIfInBounds_toArray, List.set_cons_zero, List.set_cons_succ])
    refine wpAnyH_take (i := 3) (oi := _) (v := ?tv4) rfl (by kernel_rfl) (by kernel_rfl) (by kernel_rfl) (fun _ _ _ h => h) (Or.inl ⟨by first | (go_simp; done) | rfl, ?ty4⟩) hHeld ?tr4
    case ty4 => (intro w9 h9; go_simp; (try with_reducible rfl))
    case tr4 =>
    (try simp only [Act.put, List.getElem_toArray, List.getElem_cons_zero, List.getElem_cons_succ, List.setIfInBounds_toArray, List.set_cons_zero, List.set_cons_succ])
    refine wpAnyH_take (i := 4) (oi := _) (v := ?tv5) rfl (by kernel_rfl) (by kernel_rfl) (by kernel_rfl) (fun _ _ _ h => h) (Or.inl ⟨by first | (go_simp; done) | rfl, ?ty5⟩) hHeld ?tr5
    case ty5 => (intro w9 h9; go_simp; (try with_reducible rfl))
    case tr5 =>
    (try simp only [Act.put, List.getElem_toArray, List.getElem_cons_zero, List.getElem_cons_succ, List.setIfInBounds_toArray, List.set_cons_zero, List.set_cons_succ])
    refine wpAnyH_ready (rs := [5]) (by decide +kernel) (by simp) ?_
    refine AllReadyH.cons (o := _) rfl (fun K hK => ?_) AllReadyH.nil
    obtain ⟨s5, hs5, L5⟩ := hHeld
    go_simp
    refine (l01Below_any B g A c l 3 _ (by decide) (by decide) L5.1).mono ?_
    rintro e v5 ⟨x5, ⟨hx5, hx6⟩, rfl, C5, k5⟩
    (try go_wp2_with fail)
    refine hK.out _ _ ⟨s5, hs5, L5.call hrg hvg C5 k5⟩ (fun hH5 => ?_)
    clear hK K C5 k5 L5 hs5 s5
    (try simp only [Act.put, List.getElem_toArray, List.getElem_cons_zero, List.getElem_cons_succ, List.setIfInBounds_toArray, List.set_cons_zero, List.set_cons_succ])
    refine wpAnyH_take (i := 6) (oi := _) (v := ?tv6) rfl (by kernel_rfl) (by kernel_rfl) (by kernel_rfl) (fun _ _ _ h => h) (Or.inl ⟨by first | (go_simp; done) | rfl, ?ty6⟩) hH5 ?tr6
    case ty6 => (intro w9 h9; go_simp; (try with_reducible rfl))
    case tr6 =>
    (try simp only [Act.put, List.getElem_toArray, List.getElem_cons_zero, List.getElem_cons_succ, List.setIfInBounds_toArray, List.set_cons_zero, List.set_cons_succ])
    refine wpAnyH_take (i := 7) (oi := _) (v := ?tv7) rfl (by kernel_rfl) (by kernel_rfl) (by kernel_rfl) (fun _ _ _ h => h) (Or.inl ⟨by first | (go_simp; done) | rfl, ?ty7⟩) hH5 ?tr7
    case ty7 => (intro w9 h9; go_simp; (try with_reducible rfl))
    case tr7 =>
    (try simp only [Act.put, List.getElem_toArray, List.getElem_cons_zero, List.getElem_cons_succ, List.setIfInBounds_toArray, List.set_cons_zero, List.set_cons_succ])
    refine wpAnyH_take (i := 8) (oi := _) (v := ?tv8) rfl (by kernel_rfl) (by kernel_rfl) (by kernel_rfl) (fun _ _ _ h => h) (Or.inl ⟨by first | (go_simp; done) | rfl, ?ty8⟩) hH5 ?tr8
    case ty8 => (intro w9 h9; go_simp; (try with_reducible rfl))
    case tr8 =>
    (try simp only [Act.put, List.getElem_toArray, List.getElem_cons_zero, List.getElem_cons_succ, List.setIfInBounds_toArray, List.set_cons_zero, List.set_cons_succ])
    refine wpAnyH_take (i := 9) (oi := _) (v := ?tv9) rfl (by kernel_rfl) (by kernel_rfl) (by kernel_rfl) (fun _ _ _ h => h) (Or.inl ⟨by first | (go_simp; done) | rfl, ?ty9⟩) hH5 ?tr9
    case ty9 => (intro w9 h9; go_simp; (try with_reducible rfl))
    case tr9 =>
    (try simp only [Act.put, List.getElem_toArray, List.getElem_cons_zero, List.getElem_cons_succ, List.setIfInBounds_toArray, List.set_cons_zero, List.set_cons_succ])
    refine wpAnyH_ready (rs := [10]) (by decide +kernel) (by simp) ?_
    refine AllReadyH.cons (o := _) rfl (fun K hK => ?_) AllReadyH.nil
    obtain ⟨s6, hs6, L6⟩ := hH5
    go_simp
    refine (l01Long_any n _ _ (by omega) (by first | omega | exact ⟨Int.emod_nonneg _ (by decide), Int.emod_lt_of_pos _ (by decide)⟩)).mono ?_
    rintro e v6 ⟨s7, hs7, rfl, k6⟩
    (try go_wp2_with fail)
    refine hK.out _ _ ⟨s6, hs6, L6.ext k6⟩ (fun hH6 => ?_)
    clear hK K k6 L6 hs6 s6
    (try simp only [Act.put, List.getElem_toArray, List.getElem_cons_zero, List.getElem_cons_succ, List.setIfInBounds_toArray, List.set_cons_zero, List.set_cons_succ])
    refine wpAnyH_take (i := 11) (oi := _) (v := ?tv10) rfl (by kernel_rfl) (by kernel_rfl) (by kernel_rfl) (fun _ _ _ h => h) (Or.inl ⟨by first | (go_simp; done) | rfl, ?ty10⟩) hH6 ?tr10
    case ty10 => (intro w9 h9; go_simp; (try with_reducible rfl))
    case tr10 =>
    (try simp only [Act.put, List.getElem_toArray, List.getElem_cons_zero, List.getElem_cons_succ, List.setIfInBounds_toArray, List.set_cons_zero, List.set_cons_succ])
    refine wpAnyH_ready (rs := [12]) (by decide +kernel) (by simp) ?_
    refine AllReadyH.cons (o := _) rfl (fun K hK => ?_) AllReadyH.nil
    obtain ⟨s8, hs8, L8⟩ := hH6
    have N8 := LH.set_ L8 hwv hBv hgv hrv 2 (.string s7) ⟨h.number, y, s7, h.taken, h.takenRoot⟩ rfl
    obtain ⟨hc8, hf8⟩ := L8.2.1.rules
    clear L8
    go_simp
    refine hK.out _ _ ⟨s7, by omega, N8⟩ (fun _ => ?_)
    clear hK K hc8 hf8
    (try simp only [Act.put, List.getElem_toArray, List.getElem_cons_zero, List.getElem_cons_succ, List.setIfInBounds_toArray, List.set_cons_zero, List.set_cons_succ])
    refine wpAnyH_done (by kernel_rfl) ?_ _
    go_wp2_with fail
    go_meet
    case rel => exact ⟨rfl, _, (show HeadIn ⟨h.number, y, s7, h.taken, h.takenRoot⟩ from ⟨hi.1, ⟨by show -1 ≤ y; omega, by show y ≤ 600; omega⟩, by show s7.size ≤ 40; omega, hi.2.2.2⟩), N8⟩
  case rest =>
  obtain ⟨rfl, h, hi, K⟩ := hcut
  go_wp2_with fail
  refine (l01Once_any B g A c l 3 _ (by decide) (by decide) K.1).mono ?_
  rintro e wa ⟨b, rfl, C1, k1⟩
  replace K := K.call hrg hvg C1 k1
  clear C1 k1
  go_upto_if 39 with fail
  go_cut [1] (fun y wx => y = .int .i64 (n : Int) ∧ ∃ h, HeadIn h ∧ LH w B g r v A c l h wx)
  case first =>
    cases b
    case true =>
      go_wp2_with fail
      go_meet
      case rel => exact ⟨rfl, h, hi, K⟩
    go_wp2_with fail
    refine (l01Below_any B g A c l 4 _ (by decide) (by decide) K.1).mono ?_
    rintro e wb ⟨x, ⟨hx0, hx1⟩, rfl, C1, k1⟩
    replace K := K.call hrg hvg C1 k1
    clear C1 k1
    obtain ⟨hc, hf⟩ := K.2.1.rules
    go_upto_region 11 with fail
    clear hc hf
    replace K := LH.set_ K hwv hBv hgv hrv 3 (.int .i64 (1 + x)) ⟨h.number, h.size, h.root, 1 + x, h.takenRoot⟩ rfl
    generalize wb.setCell ⟨v, 3, none⟩ (.int .i64 (1 + x)) = wc at *
    obtain ⟨y, hy⟩ : ∃ y, y = 1 + x := ⟨_, rfl⟩
    rw [← hy] at K
    rw [← hy]
    have hy0 : 1 ≤ y := by omega
    have hy1 : y ≤ 6 := by omega
    clear hy hx0 hx1
    refine wp_region_held_drew (S := fun wx => ∃ s : ByteArray, s.size ≤ 40 ∧ LH w B g r v A c l ⟨h.number, h.size, h.root, y, s⟩ wx) (by kernel_rfl) ⟨_, ?_, LH.ext K ⟨rfl, rfl, rfl, Nat.le_refl _, fun _ _ => rfl⟩⟩ (fun hHeld => ?_)
    · have := hi.2.2.1; have := hi.2.2.2.2; (try dsimp only); omega
    clear K
    refine wpAnyH_take (i := 0) (oi := _) (v := ?tv11) rfl (by kernel_rfl) (by kernel_rfl) (by kernel_rfl) (fun _ _ _ h => h) (Or.inl ⟨by first | (go_simp; done) | rfl, ?ty11⟩) hHeld ?tr11
    case ty11 => (intro w9 h9; go_simp; (try with_reducible rfl))
    case tr11 =>
    (try simp only [Act.put, List.getElem_toArray, List.getElem_cons_zero, List.getElem_cons_succ, List.setIfInBounds_toArray, List.set_cons_zero, List.set_cons_succ])
    refine wpAnyH_take (i := 1) (oi := _) (v := ?tv12) rfl (by kernel_rfl) (by kernel_rfl) (by kernel_rfl) (fun _ _ _ h => h) (Or.inl ⟨by first | (go_simp; done) | rfl, ?ty12⟩) hHeld ?tr12
    case ty12 => (intro w9 h9; go_simp; (try with_reducible rfl))
    case tr12 =>
    (try simp only [Act.put, List.getElem_toArray, List.getElem_cons_zero, List.getElem_cons_succ, List.setIfInBounds_toArray, List.set_cons_zero, List.set_cons_succ])
    refine wpAnyH_take (i := 2) (oi := _) (v := ?tv13) rfl (by kernel_rfl) (by kernel_rfl) (by kernel_rfl) (fun _ _ _ h => h) (Or.inl ⟨by first | (go_simp; done) | rfl, ?ty13⟩) hHeld ?tr13
    case ty13 => (intro w9 h9; obtain ⟨s9, hs9, L9⟩ := h9; have q9 : w9.cell? ⟨v, 3, none⟩ = some (.int .i64 y) := L9.2.1.cell 3; clear L9; go_simp; (try with_reducible rfl))
    case tr13 =>
    (try simp only [Act.put, List.getElem_toArray, List.getElem_cons_zero, List.getElem_cons_succ, List.setIfInBounds_toArray, List.set_cons_zero, List.set_cons_succ])
    refine wpAnyH_take (i := 3) (oi := _) (v := ?tv14) rfl (by kernel_rfl) (by kernel_rfl) (by kernel_rfl) (fun _ _ _ h => h) (Or.inl ⟨by first | (go_simp; done) | rfl, ?ty14⟩) hHeld ?tr14
    case ty14 => (intro w9 h9; go_simp; (try with_reducible rfl))
    case tr14 =>
    (try simp only [Act.put, List.getElem_toArray, List.getElem_cons_zero, List.getElem_cons_succ, List.setIfInBounds_toArray, List.set_cons_zero, List.set_cons_succ])
    refine wpAnyH_take (i := 4) (oi := _) (v := ?tv15) rfl (by kernel_rfl) (by kernel_rfl) (by kernel_rfl) (fun _ _ _ h => h) (Or.inl ⟨by first | (go_simp; done) | rfl, ?ty15⟩) hHeld ?tr15
    case ty15 => (intro w9 h9; go_simp; (try with_reducible rfl))
    case tr15 =>
    (try simp only [Act.put, List.getElem_toArray, List.getElem_cons_zero, List.getElem_cons_succ, List.setIfInBounds_toArray, List.set_cons_zero, List.set_cons_succ])
    refine wpAnyH_ready (rs := [5]) (by decide +kernel) (by simp) ?_
    refine AllReadyH.cons (o := _) rfl (fun K hK => ?_) AllReadyH.nil
    obtain ⟨s5, hs5, L5⟩ := hHeld
    go_simp
    refine (l01Below_any B g A c l 5 _ (by decide) (by decide) L5.1).mono ?_
    rintro e v5 ⟨x5, ⟨hx5, hx6⟩, rfl, C5, k5⟩
    (try go_wp2_with fail)
    refine hK.out _ _ ⟨s5, hs5, L5.call hrg hvg C5 k5⟩ (fun hH5 => ?_)
    clear hK K C5 k5 L5 hs5 s5
    (try simp only [Act.put, List.getElem_toArray, List.getElem_cons_zero, List.getElem_cons_succ, List.setIfInBounds_toArray, List.set_cons_zero, List.set_cons_succ])
    refine wpAnyH_take (i := 6) (oi := _) (v := ?tv16) rfl (by kernel_rfl) (by kernel_rfl) (by kernel_rfl) (fun _ _ _ h => h) (Or.inl ⟨by first | (go_simp; done) | rfl, ?ty16⟩) hH5 ?tr16
    case ty16 => (intro w9 h9; go_simp; (try with_reducible rfl))
    case tr16 =>
    (try simp only [Act.put, List.getElem_toArray, List.getElem_cons_zero, List.getElem_cons_succ, List.setIfInBounds_toArray, List.set_cons_zero, List.set_cons_succ])
    refine wpAnyH_take (i := 7) (oi := _) (v := ?tv17) rfl (by kernel_rfl) (by kernel_rfl) (by kernel_rfl) (fun _ _ _ h => h) (Or.inl ⟨by first | (go_simp; done) | rfl, ?ty17⟩) hH5 ?tr17
    case ty17 => (intro w9 h9; go_simp; (try with_reducible rfl))
    case tr17 =>
    (try simp only [Act.put, List.getElem_toArray, List.getElem_cons_zero, List.getElem_cons_succ, List.setIfInBounds_toArray, List.set_cons_zero, List.set_cons_succ])
    refine wpAnyH_take (i := 8) (oi := _) (v := ?tv18) rfl (by kernel_rfl) (by kernel_rfl) (by kernel_rfl) (fun _ _ _ h => h) (Or.inl ⟨by first | (go_simp; done) | rfl, ?ty18⟩) hH5 ?tr18
    case ty18 => (intro w9 h9; go_simp; (try with_reducible rfl))
    case tr18 =>
    (try simp only [Act.put, List.getElem_toArray, List.getElem_cons_zero, List.getElem_cons_succ, List.setIfInBounds_toArray, List.set_cons_zero, List.set_cons_succ])
    refine wpAnyH_take (i := 9) (oi := _) (v := ?tv19) rfl (by kernel_rfl) (by kernel_rfl) (by kernel_rfl) (fun _ _ _ h => h) (Or.inl ⟨by first | (go_simp; done) | rfl, ?ty19⟩) hH5 ?tr19
    case ty19 => (intro w9 h9; go_simp; (try with_reducible rfl))
    case tr19 =>
    (try simp only [Act.put, List.getElem_toArray, List.getElem_cons_zero, List.getElem_cons_succ, List.setIfInBounds_toArray, List.set_cons_zero, List.set_cons_succ])
    refine wpAnyH_ready (rs := [10]) (by decide +kernel) (by simp) ?_
    refine AllReadyH.cons (o := _) rfl (fun K hK => ?_) AllReadyH.nil
    obtain ⟨s6, hs6, L6⟩ := hH5
    go_simp
    refine (l01Long_any n _ _ (by omega) (by first | omega | exact ⟨Int.emod_nonneg _ (by decide), Int.emod_lt_of_pos _ (by decide)⟩)).mono ?_
    rintro e v6 ⟨s7, hs7, rfl, k6⟩
    (try go_wp2_with fail)
    refine hK.out _ _ ⟨s6, hs6, L6.ext k6⟩ (fun hH6 => ?_)
    clear hK K k6 L6 hs6 s6
    (try simp only [Act.put, List.getElem_toArray, List.getElem_cons_zero, List.getElem_cons_succ, List.setIfInBounds_toArray, List.set_cons_zero, List.set_cons_succ])
    refine wpAnyH_take (i := 11) (oi := _) (v := ?tv20) rfl (by kernel_rfl) (by kernel_rfl) (by kernel_rfl) (fun _ _ _ h => h) (Or.inl ⟨by first | (go_simp; done) | rfl, ?ty20⟩) hH6 ?tr20
    case ty20 => (intro w9 h9; go_simp; (try with_reducible rfl))
    case tr20 =>
    (try simp only [Act.put, List.getElem_toArray, List.getElem_cons_zero, List.getElem_cons_succ, List.setIfInBounds_toArray, List.set_cons_zero, List.set_cons_succ])
    refine wpAnyH_ready (rs := [12]) (by decide +kernel) (by simp) ?_
    refine AllReadyH.cons (o := _) rfl (fun K hK => ?_) AllReadyH.nil
    obtain ⟨s8, hs8, L8⟩ := hH6
    have N8 := LH.set_ L8 hwv hBv hgv hrv 4 (.string s7) ⟨h.number, h.size, h.root, y, s7⟩ rfl
    obtain ⟨hc8, hf8⟩ := L8.2.1.rules
    clear L8
    go_simp
    refine hK.out _ _ ⟨s7, by omega, N8⟩ (fun _ => ?_)
    clear hK K hc8 hf8
    (try simp only [Act.put, List.getElem_toArray, List.getElem_cons_zero, List.getElem_cons_succ, List.setIfInBounds_toArray, List.set_cons_zero, List.set_cons_succ])
    refine wpAnyH_done (by kernel_rfl) ?_ _
    go_wp2_with fail
    go_meet
    case rel => exact ⟨rfl, _, (show HeadIn ⟨h.number, h.size, h.root, y, s7⟩ from ⟨hi.1, hi.2.1, hi.2.2.1, ⟨by show -1 ≤ y; omega, by show y ≤ 600; omega⟩, by show s7.size ≤ 40; omega⟩), N8⟩
  case rest =>
  obtain ⟨rfl, h, hi, K⟩ := hcut
  go_wp2_with fail
  refine (l01Below_any B g A c l 30 _ (by decide) (by decide) K.1).mono ?_
  rintro e w5 ⟨x, ⟨hx0, hx1⟩, rfl, C1, k1⟩
  replace K := K.call hrg hvg C1 k1
  clear C1 k1
  have hgw5 : w5.heap.size ≠ g := by have := K.1.lt; omega
  by_cases x0 : x = 0
  · have f0 : (x == 0) = true := by simpa using x0
    clear x0
    go_wp2_with fail
    have KP := Blk.new w5 3 #[.int .i64 (-1), .int .i64 256, .int .i64 399, .int .i64 400]
    replace K := K.ext (Ext.new (Below.refl _ _) (.cells #[.int .i64 (-1), .int .i64 256, .int .i64 399, .int .i64 400] 3))
    have hpg : w5.heap.size ≠ g := hgw5
    refine (l01PickInt_any B g w5.heap.size A c _ l [-1, 256, 399, 400] _ (by decide) (by decide) hpg KP K.1).mono ?_
    rintro e w6 ⟨t, ht0, rfl, C1, k1⟩
    replace K := K.call hrg hvg C1 k1
    clear C1 k1 KP
    have ht : -1 ≤ t ∧ t ≤ 600 := by simp at ht0; omega
    clear ht0
    obtain ⟨hc, hf⟩ := K.2.1.rules
    have K2 := LH.set_ K hwv hBv hgv hrv 0 (.int .i64 t) ⟨t, h.size, h.root, h.taken, h.takenRoot⟩ rfl
    clear K
    go_upto_region 25 with fail
    have HO := Lib.hid (HeadIn.ok (show HeadIn ⟨t, h.size, h.root, h.taken, h.takenRoot⟩ from ⟨ht, hi.2⟩))
    clear hc hf
    generalize w6.setCell ⟨v, 0, none⟩ (.int .i64 t) = wz at *
    obtain ⟨hz, hhz⟩ : ∃ hz : HeadD, hz = ⟨t, h.size, h.root, h.taken, h.takenRoot⟩ := ⟨_, rfl⟩
    rw [← hhz] at HO K2
    clear hhz
    obtain ⟨hc, hf⟩ := K2.2.1.rules
    obtain ⟨hc0, hf0⟩ := K2.2.2.1.rules
    have B9 := Lib.hid (K2.2.2.1.put 0 [.int .i64 hz.number, .int .i64 hz.size, .string hz.root, .int .i64 hz.taken, .string hz.takenRoot] #[.int .i64 hz.number, .int .i64 hz.size, .string hz.root, .int .i64 hz.taken, .string hz.takenRoot] (by simp) (by simp))
    have C9 := Lib.hid (K2.1.far (p := r) (by omega) (fun e => hrg e.symm) [.int .i64 hz.number, .int .i64 hz.size, .string hz.root, .int .i64 hz.taken, .string hz.takenRoot] 0)
    have E9 := Lib.hid (ExtBut.setCellsNew_ (q := r) hwr [.int .i64 hz.number, .int .i64 hz.size, .string hz.root, .int .i64 hz.taken, .string hz.takenRoot] 0 _ K2.2.2.2)
    clear K2
    go_wp2_with fail
    refine ret_row rfl rfl B9.out Try.underlying42 rfl (by kernel_rfl) rfl ?_
    exact ⟨hz, HO.out, rfl, C9.out, E9.out⟩
  have f0 : (x == 0) = false := by simpa using x0
  by_cases x1 : x = 1
  · have f1 : (x == 1) = true := by simpa using x1
    clear x1
    go_wp2_with fail
    have KP := Blk.new w5 3 #[.int .i64 (-1), .int .i64 512, .int .i64 513]
    replace K := K.ext (Ext.new (Below.refl _ _) (.cells #[.int .i64 (-1), .int .i64 512, .int .i64 513] 3))
    have hpg : w5.heap.size ≠ g := hgw5
    refine (l01PickInt_any B g w5.heap.size A c _ l [-1, 512, 513] _ (by decide) (by decide) hpg KP K.1).mono ?_
    rintro e w6 ⟨t, ht0, rfl, C1, k1⟩
    replace K := K.call hrg hvg C1 k1
    clear C1 k1 KP
    have ht : -1 ≤ t ∧ t ≤ 600 := by simp at ht0; omega
    clear ht0
    obtain ⟨hc, hf⟩ := K.2.1.rules
    have K2 := LH.set_ K hwv hBv hgv hrv 1 (.int .i64 t) ⟨h.number, t, h.root, h.taken, h.takenRoot⟩ rfl
    clear K
    go_upto_region 25 with fail
    have HO := Lib.hid (HeadIn.ok (show HeadIn ⟨h.number, t, h.root, h.taken, h.takenRoot⟩ from ⟨hi.1, ht, hi.2.2⟩))
    clear hc hf
    generalize w6.setCell ⟨v, 1, none⟩ (.int .i64 t) = wz at *
    obtain ⟨hz, hhz⟩ : ∃ hz : HeadD, hz = ⟨h.number, t, h.root, h.taken, h.takenRoot⟩ := ⟨_, rfl⟩
    rw [← hhz] at HO K2
    clear hhz
    obtain ⟨hc, hf⟩ := K2.2.1.rules
    obtain ⟨hc0, hf0⟩ := K2.2.2.1.rules
    have B9 := Lib.hid (K2.2.2.1.put 0 [.int .i64 hz.number, .int .i64 hz.size, .string hz.root, .int .i64 hz.taken, .string hz.takenRoot] #[.int .i64 hz.number, .int .i64 hz.size, .string hz.root, .int .i64 hz.taken, .string hz.takenRoot] (by simp) (by simp))
    have C9 := Lib.hid (K2.1.far (p := r) (by omega) (fun e => hrg e.symm) [.int .i64 hz.number, .int .i64 hz.size, .string hz.root, .int .i64 hz.taken, .string hz.takenRoot] 0)
    have E9 := Lib.hid (ExtBut.setCellsNew_ (q := r) hwr [.int .i64 hz.number, .int .i64 hz.size, .string hz.root, .int .i64 hz.taken, .string hz.takenRoot] 0 _ K2.2.2.2)
    clear K2
    go_wp2_with fail
    refine ret_row rfl rfl B9.out Try.underlying42 rfl (by kernel_rfl) rfl ?_
    exact ⟨hz, HO.out, rfl, C9.out, E9.out⟩
  have f1 : (x == 1) = false := by simpa using x1
  by_cases x2 : x = 2
  · have f2 : (x == 2) = true := by simpa using x2
    clear x2
    go_wp2_with fail
    have KP := Blk.new w5 3 #[.int .i64 (-1), .int .i64 512, .int .i64 513]
    replace K := K.ext (Ext.new (Below.refl _ _) (.cells #[.int .i64 (-1), .int .i64 512, .int .i64 513] 3))
    have hpg : w5.heap.size ≠ g := hgw5
    refine (l01PickInt_any B g w5.heap.size A c _ l [-1, 512, 513] _ (by decide) (by decide) hpg KP K.1).mono ?_
    rintro e w6 ⟨t, ht0, rfl, C1, k1⟩
    replace K := K.call hrg hvg C1 k1
    clear C1 k1 KP
    have ht : -1 ≤ t ∧ t ≤ 600 := by simp at ht0; omega
    clear ht0
    obtain ⟨hc, hf⟩ := K.2.1.rules
    have K2 := LH.set_ K hwv hBv hgv hrv 3 (.int .i64 t) ⟨h.number, h.size, h.root, t, h.takenRoot⟩ rfl
    clear K
    go_upto_region 25 with fail
    have HO := Lib.hid (HeadIn.ok (show HeadIn ⟨h.number, h.size, h.root, t, h.takenRoot⟩ from ⟨hi.1, hi.2.1, hi.2.2.1, ht, hi.2.2.2.2⟩))
    clear hc hf
    generalize w6.setCell ⟨v, 3, none⟩ (.int .i64 t) = wz at *
    obtain ⟨hz, hhz⟩ : ∃ hz : HeadD, hz = ⟨h.number, h.size, h.root, t, h.takenRoot⟩ := ⟨_, rfl⟩
    rw [← hhz] at HO K2
    clear hhz
    obtain ⟨hc, hf⟩ := K2.2.1.rules
    obtain ⟨hc0, hf0⟩ := K2.2.2.1.rules
    have B9 := Lib.hid (K2.2.2.1.put 0 [.int .i64 hz.number, .int .i64 hz.size, .string hz.root, .int .i64 hz.taken, .string hz.takenRoot] #[.int .i64 hz.number, .int .i64 hz.size, .string hz.root, .int .i64 hz.taken, .string hz.takenRoot] (by simp) (by simp))
    have C9 := Lib.hid (K2.1.far (p := r) (by omega) (fun e => hrg e.symm) [.int .i64 hz.number, .int .i64 hz.size, .string hz.root, .int .i64 hz.taken, .string hz.takenRoot] 0)
    have E9 := Lib.hid (ExtBut.setCellsNew_ (q := r) hwr [.int .i64 hz.number, .int .i64 hz.size, .string hz.root, .int .i64 hz.taken, .string hz.takenRoot] 0 _ K2.2.2.2)
    clear K2
    go_wp2_with fail
    refine ret_row rfl rfl B9.out Try.underlying42 rfl (by kernel_rfl) rfl ?_
    exact ⟨hz, HO.out, rfl, C9.out, E9.out⟩
  have f2 : (x == 2) = false := by simpa using x2
  by_cases x3 : x = 3
  · have f3 : (x == 3) = true := by simpa using x3
    clear x3
    go_wp2_with fail
    refine (l03Hash_any B g A c l n _ h1 h2 K.1).mono ?_
    rintro e w6 ⟨s, hs, rfl, C1, k1⟩
    replace K := K.call hrg hvg C1 k1
    clear C1 k1
    obtain ⟨hc, hf⟩ := K.2.1.rules
    have K2 := LH.set_ K hwv hBv hgv hrv 2 (.string s) ⟨h.number, h.size, s, h.taken, h.takenRoot⟩ rfl
    clear K
    go_upto_region 25 with fail
    have HO := Lib.hid (HeadIn.ok (show HeadIn ⟨h.number, h.size, s, h.taken, h.takenRoot⟩ from ⟨hi.1, hi.2.1, hs, hi.2.2.2⟩))
    clear hc hf
    generalize w6.setCell ⟨v, 2, none⟩ (.string s) = wz at *
    obtain ⟨hz, hhz⟩ : ∃ hz : HeadD, hz = ⟨h.number, h.size, s, h.taken, h.takenRoot⟩ := ⟨_, rfl⟩
    rw [← hhz] at HO K2
    clear hhz
    obtain ⟨hc, hf⟩ := K2.2.1.rules
    obtain ⟨hc0, hf0⟩ := K2.2.2.1.rules
    have B9 := Lib.hid (K2.2.2.1.put 0 [.int .i64 hz.number, .int .i64 hz.size, .string hz.root, .int .i64 hz.taken, .string hz.takenRoot] #[.int .i64 hz.number, .int .i64 hz.size, .string hz.root, .int .i64 hz.taken, .string hz.takenRoot] (by simp) (by simp))
    have C9 := Lib.hid (K2.1.far (p := r) (by omega) (fun e => hrg e.symm) [.int .i64 hz.number, .int .i64 hz.size, .string hz.root, .int .i64 hz.taken, .string hz.takenRoot] 0)
    have E9 := Lib.hid (ExtBut.setCellsNew_ (q := r) hwr [.int .i64 hz.number, .int .i64 hz.size, .string hz.root, .int .i64 hz.taken, .string hz.takenRoot] 0 _ K2.2.2.2)
    clear K2
    go_wp2_with fail
    refine ret_row rfl rfl B9.out Try.underlying42 rfl (by kernel_rfl) rfl ?_
    exact ⟨hz, HO.out, rfl, C9.out, E9.out⟩
  have f3 : (x == 3) = false := by simpa using x3
  by_cases x4 : x = 4
  · have f4 : (x == 4) = true := by simpa using x4
    clear x4
    have hz : ¬ 9223372036854775807 < h.takenRoot.size + (⟨#[120]⟩ : ByteArray).size := by have := hi.2.2.2.2; have e : (⟨#[120]⟩ : ByteArray).size = 1 := rfl; omega
    have hz2 : ¬ 9223372036854775807 < h.takenRoot.size + 1 := by have := hi.2.2.2.2; omega
    have hs5 := hi.2.2.2.2
    obtain ⟨hc, hf⟩ := K.2.1.rules
    have K2 := LH.set_ K hwv hBv hgv hrv 4 (.string (h.takenRoot ++ ⟨#[120]⟩)) ⟨h.number, h.size, h.root, h.taken, h.takenRoot ++ ⟨#[120]⟩⟩ rfl
    clear K
    go_upto_region 25 with fail
    have HO := Lib.hid ((show HeadD.Ok ⟨h.number, h.size, h.root, h.taken, h.takenRoot ++ ⟨#[120]⟩⟩ from ⟨(HeadIn.ok hi).1, (HeadIn.ok hi).2.1, (HeadIn.ok hi).2.2.1, (HeadIn.ok hi).2.2.2.1, by have := hi.2.2.2.2; show (h.takenRoot ++ ⟨#[120]⟩).size ≤ maxLen; rw [ByteArray.size_append]; have e : (⟨#[120]⟩ : ByteArray).size = 1 := rfl; unfold maxLen; omega⟩))
    clear hc hf
    generalize w5.setCell ⟨v, 4, none⟩ (.string (h.takenRoot ++ ⟨#[120]⟩)) = wz at *
    obtain ⟨hz, hhz⟩ : ∃ hz : HeadD, hz = ⟨h.number, h.size, h.root, h.taken, h.takenRoot ++ ⟨#[120]⟩⟩ := ⟨_, rfl⟩
    rw [← hhz] at HO K2
    clear hhz
    obtain ⟨hc, hf⟩ := K2.2.1.rules
    obtain ⟨hc0, hf0⟩ := K2.2.2.1.rules
    have B9 := Lib.hid (K2.2.2.1.put 0 [.int .i64 hz.number, .int .i64 hz.size, .string hz.root, .int .i64 hz.taken, .string hz.takenRoot] #[.int .i64 hz.number, .int .i64 hz.size, .string hz.root, .int .i64 hz.taken, .string hz.takenRoot] (by simp) (by simp))
    have C9 := Lib.hid (K2.1.far (p := r) (by omega) (fun e => hrg e.symm) [.int .i64 hz.number, .int .i64 hz.size, .string hz.root, .int .i64 hz.taken, .string hz.takenRoot] 0)
    have E9 := Lib.hid (ExtBut.setCellsNew_ (q := r) hwr [.int .i64 hz.number, .int .i64 hz.size, .string hz.root, .int .i64 hz.taken, .string hz.takenRoot] 0 _ K2.2.2.2)
    clear K2
    go_wp2_with fail
    refine ret_row rfl rfl B9.out Try.underlying42 rfl (by kernel_rfl) rfl ?_
    exact ⟨hz, HO.out, rfl, C9.out, E9.out⟩
  have f4 : (x == 4) = false := by simpa using x4
  by_cases x5 : x = 5
  · have f5 : (x == 5) = true := by simpa using x5
    clear x5
    obtain ⟨hc, hf⟩ := K.2.1.rules
    have K2 := LH.set_ K hwv hBv hgv hrv 1 (.int .i64 0) ⟨h.number, 0, h.root, h.taken, h.takenRoot⟩ rfl
    clear K
    go_upto_region 25 with fail
    have HO := Lib.hid (HeadIn.ok (show HeadIn ⟨h.number, 0, h.root, h.taken, h.takenRoot⟩ from ⟨hi.1, ⟨by show (-1 : Int) ≤ 0; decide, by show (0 : Int) ≤ 600; decide⟩, hi.2.2⟩))
    clear hc hf
    generalize w5.setCell ⟨v, 1, none⟩ (.int .i64 0) = wz at *
    obtain ⟨hz, hhz⟩ : ∃ hz : HeadD, hz = ⟨h.number, 0, h.root, h.taken, h.takenRoot⟩ := ⟨_, rfl⟩
    rw [← hhz] at HO K2
    clear hhz
    obtain ⟨hc, hf⟩ := K2.2.1.rules
    obtain ⟨hc0, hf0⟩ := K2.2.2.1.rules
    have B9 := Lib.hid (K2.2.2.1.put 0 [.int .i64 hz.number, .int .i64 hz.size, .string hz.root, .int .i64 hz.taken, .string hz.takenRoot] #[.int .i64 hz.number, .int .i64 hz.size, .string hz.root, .int .i64 hz.taken, .string hz.takenRoot] (by simp) (by simp))
    have C9 := Lib.hid (K2.1.far (p := r) (by omega) (fun e => hrg e.symm) [.int .i64 hz.number, .int .i64 hz.size, .string hz.root, .int .i64 hz.taken, .string hz.takenRoot] 0)
    have E9 := Lib.hid (ExtBut.setCellsNew_ (q := r) hwr [.int .i64 hz.number, .int .i64 hz.size, .string hz.root, .int .i64 hz.taken, .string hz.takenRoot] 0 _ K2.2.2.2)
    clear K2
    go_wp2_with fail
    refine ret_row rfl rfl B9.out Try.underlying42 rfl (by kernel_rfl) rfl ?_
    exact ⟨hz, HO.out, rfl, C9.out, E9.out⟩
  have f5 : (x == 5) = false := by simpa using x5
  go_upto_region 25 with fail
  have HO := Lib.hid (HeadIn.ok hi)
  have K2 := K
  clear K
  obtain ⟨hz, hhz⟩ : ∃ hz : HeadD, hz = h := ⟨_, rfl⟩
  rw [← hhz] at HO K2
  clear hhz
  obtain ⟨hc, hf⟩ := K2.2.1.rules
  obtain ⟨hc0, hf0⟩ := K2.2.2.1.rules
  have B9 := Lib.hid (K2.2.2.1.put 0 [.int .i64 hz.number, .int .i64 hz.size, .string hz.root, .int .i64 hz.taken, .string hz.takenRoot] #[.int .i64 hz.number, .int .i64 hz.size, .string hz.root, .int .i64 hz.taken, .string hz.takenRoot] (by simp) (by simp))
  have C9 := Lib.hid (K2.1.far (p := r) (by omega) (fun e => hrg e.symm) [.int .i64 hz.number, .int .i64 hz.size, .string hz.root, .int .i64 hz.taken, .string hz.takenRoot] 0)
  have E9 := Lib.hid (ExtBut.setCellsNew_ (q := r) hwr [.int .i64 hz.number, .int .i64 hz.size, .string hz.root, .int .i64 hz.taken, .string hz.takenRoot] 0 _ K2.2.2.2)
  clear K2
  go_wp2_with fail
  refine ret_row rfl rfl B9.out Try.underlying42 rfl (by kernel_rfl) rfl ?_
  exact ⟨hz, HO.out, rfl, C9.out, E9.out⟩
end Go.Proofs.Yteaphajagmbllaa
