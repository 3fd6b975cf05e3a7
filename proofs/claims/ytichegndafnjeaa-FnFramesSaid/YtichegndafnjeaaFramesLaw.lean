/-
  Records come back from their frames, cut anywhere those that are whole: plain. No condition.
-/
import Derived.Test.YtichegndafnjeaaUnfrLaw
import Derived.Test.YtichegndafnjeaaLeafBk
namespace Go.Proofs.Ytichegndafnjeaa
open Go.RowKit
set_option linter.unusedVariables false

def fits1 (T : ByteArray) : Bool := inR T.size 1 1000
def framesT : List ByteArray → ByteArray
  | [] => ⟨#[]⟩
  | T :: l => frameB T ++ framesT l
theorem framesT_append : ∀ (a b : List ByteArray), framesT (a ++ b) = framesT a ++ framesT b
  | [], b => by simp [framesT]; exact ByteArray.empty_append.symm
  | T :: a, b => by rw [List.cons_append, framesT, framesT, framesT_append a b, ByteArray.append_assoc]
theorem frameB_size {T : ByteArray} (h : fits1 T = true) : (frameB T).size = T.size + 6 := by
  have := dig4_size h
  have := lowB_size T.size 2
  rw [frameB, ByteArray.size_append, ByteArray.size_append]; omega
theorem fits1_le {T : ByteArray} (h : fits1 T = true) : 1 ≤ T.size ∧ T.size ≤ 1000 := by
  obtain ⟨h0, h1⟩ := inR_true h
  omega
theorem beNum_low2 {n : Nat} (h : n < 65536) : beNum (lowB n 2) = n := by rw [lowB_two]; exact beNum_oct2 n h
theorem frame_at {U T Y : ByteArray} {p : Nat} (h : Rest U (fa0 p) (frameB T ++ Y)) (ht : fits1 T = true) :
    faOk U p = true ∧ faText U p = T ∧ Rest U (fa3 U p) Y ∧ (fa3 U p).pos = p + (frameB T).size := by
  obtain ⟨t0, t1⟩ := fits1_le ht
  have e : frameB T ++ Y = lowB T.size 2 ++ (digest 4 4 T ++ (T ++ Y)) := by rw [frameB, ByteArray.append_assoc, ByteArray.append_assoc]
  rw [e] at h
  obtain ⟨h1, h2⟩ := h.take (n := 2) (lowB_size _ _)
  obtain ⟨h3, h4⟩ := h2.take (n := 4) (dig4_size ht)
  have hN : faN U p = T.size := by rw [faN, h1, beNum_low2 (by omega)]
  obtain ⟨h5, h6⟩ := h4.take (n := faN U p) hN.symm
  have hT : faText U p = T := h5
  have hS : faSum U p = digest 4 4 T := h3
  have hb : (fa3 U p).bad = false := h6.1
  have hok : faOk U p = true := by
    simp only [faOk, hb, hT, hS, hN, Bool.and_eq_true, Bool.not_false, true_and]
    exact ⟨ht, beq_self_eq_true _⟩
  exact ⟨hok, hT, h6, by rw [(faOk_pos hok).1, hN, frameB_size ht]; omega⟩
theorem Rest.size {U Y : ByteArray} {r : Rd} (h : Rest U r Y) : U.size = r.pos + Y.size := by
  obtain ⟨_, X, rfl, hX⟩ := h
  rw [ByteArray.size_append, hX]
theorem cut_two {A B : ByteArray} {j : Nat} : (A ++ B).extract 0 j = A.extract 0 j ++ B.extract 0 (j - A.size) := by
  rw [ByteArray.extract_append]
  simp
theorem extract_all {A : ByteArray} {j : Nat} (h : A.size ≤ j) : A.extract 0 j = A := by
  apply ByteArray.ext
  rw [← Array.toList_inj]
  simp [ByteArray.data_extract]
  rw [List.take_of_length_le]
  simpa [← ByteArray.size_data] using h
theorem faOk_short2 {T : ByteArray} {p : Nat} (h : ¬ p + 6 + faN T p ≤ T.size) : faOk T p = false := by
  cases b : faOk T p
  · rfl
  · exact absurd (fa_bad b) h
theorem frame_cut {U T : ByteArray} {p j : Nat} (h : Rest U (fa0 p) ((frameB T).extract 0 j)) (ht : fits1 T = true) (hj : j < (frameB T).size) : faOk U p = false := by
  obtain ⟨t0, t1⟩ := fits1_le ht
  have hfs := frameB_size ht
  have hs := h.size
  rw [ByteArray.size_extract] at hs
  have hp : (fa0 p).pos = p := rfl
  rw [hp] at hs
  refine faOk_short2 ?_
  intro hle
  have hj2 : 2 ≤ j := by omega
  have e : (frameB T).extract 0 j = lowB T.size 2 ++ (digest 4 4 T ++ T).extract 0 (j - 2) := by
    rw [frameB, ByteArray.append_assoc, cut_two, extract_all (by rw [lowB_size]; exact hj2), lowB_size]
  rw [e] at h
  obtain ⟨h1, _⟩ := h.take (n := 2) (lowB_size _ _)
  have hN : faN U p = T.size := by rw [faN, h1, beNum_low2 (by omega)]
  omega
theorem unf_cut (U : ByteArray) : ∀ (l : List ByteArray) (f p j : Nat), (∀ T ∈ l, fits1 T = true) → l.length ≤ f → j ≤ (framesT l).size → Rest U (fa0 p) ((framesT l).extract 0 j) →
    ∃ m, m ≤ l.length ∧ unfGo U f p = (l.take m, p + (framesT (l.take m)).size) ∧ (framesT (l.take m)).size ≤ j ∧ ∀ (hm : m < l.length), j < (framesT (l.take m)).size + (frameB l[m]).size
  | [], f, p, j, _, _, hj, h => by
    have hs := h.size
    simp only [framesT, ByteArray.size_extract] at hs
    have hp : (fa0 p).pos = p := rfl
    have hz : (framesT []).size = 0 := rfl
    have hj0 : j = 0 := by omega
    have hk : faOk U p = false := faOk_short2 (by
      have : (⟨#[]⟩ : ByteArray).size = 0 := rfl
      omega)
    refine ⟨0, Nat.le_refl _, ?_, Nat.zero_le _, fun hm => absurd hm (Nat.lt_irrefl 0)⟩
    cases f with
    | zero => rfl
    | succ f => rw [unfGo, if_neg (by rw [hk]; decide)]; rfl
  | T :: l, f, p, j, ht, hf, hj, h => by
    have t1 := ht T (by simp)
    obtain ⟨f, rfl⟩ : ∃ f', f = f' + 1 := ⟨f - 1, by simp at hf; omega⟩
    by_cases hF : (frameB T).size ≤ j
    · rw [framesT, cut_two, extract_all hF] at h
      obtain ⟨a1, a2, a3, a4⟩ := frame_at h t1
      have hr : Rest U (fa0 (p + (frameB T).size)) ((framesT l).extract 0 (j - (frameB T).size)) := by
        have e3 : fa3 U p = fa0 (p + (frameB T).size) := by
          have hb := a3.1
          cases hfa : fa3 U p with
          | mk pos bad => rw [hfa] at a4 hb; simp only at a4 hb; rw [a4, hb]; rfl
        rw [← e3]; exact a3
      obtain ⟨m, hm, h1, h2, h3⟩ := unf_cut U l f (p + (frameB T).size) (j - (frameB T).size) (fun x hx => ht x (by simp [hx])) (by simp at hf; exact hf) (by rw [framesT, ByteArray.size_append] at hj; omega) hr
      refine ⟨m + 1, by simp; omega, ?_, ?_, fun hlt => ?_⟩
      · rw [unfGo, if_pos a1, a2, a4, h1, List.take_succ_cons, framesT, ByteArray.size_append]
        simp only [Prod.mk.injEq, true_and]; omega
      · rw [List.take_succ_cons, framesT, ByteArray.size_append]; omega
      · have := h3 (by simp at hlt; exact hlt)
        rw [List.take_succ_cons, framesT, ByteArray.size_append, List.getElem_cons_succ]; omega
    · rw [framesT, cut_two, show j - (frameB T).size = 0 by omega] at h
      have hk : faOk U p = false := frame_cut (j := j) (by
        have e : (framesT l).extract 0 0 = ⟨#[]⟩ := by apply ByteArray.ext; simp [ByteArray.data_extract]
        rw [e, append_nil] at h; exact h) t1 (by omega)
      exact ⟨0, Nat.zero_le _, by rw [unfGo, if_neg (by rw [hk]; decide)]; rfl, Nat.zero_le _, fun _ => by show j < 0 + (frameB T).size; omega⟩
def framesOk (l : List ByteArray) : Bool := decide (l.length ≤ 600) && l.all fits1 && decide ((framesT l).size ≤ 300000)
def framesOut (l : List ByteArray) : ByteArray := if framesOk l then framesT l else ⟨#[]⟩
theorem framesOk_all {l : List ByteArray} (h : framesOk l = true) : l.length ≤ 600 ∧ (∀ T ∈ l, fits1 T = true) ∧ (framesT l).size ≤ 300000 := by
  simp only [framesOk, Bool.and_eq_true, decide_eq_true_eq, List.all_eq_true] at h
  exact ⟨h.1.1, h.1.2, h.2⟩
theorem framesT_take_le {l : List ByteArray} (k : Nat) : (framesT (l.take k)).size ≤ (framesT l).size := by
  have : framesT l = framesT (l.take k) ++ framesT (l.drop k) := by rw [← framesT_append, List.take_append_drop]
  rw [this, ByteArray.size_append]; omega
theorem framesT_next {l : List ByteArray} {k : Nat} {T : ByteArray} (h : l[k]? = some T) : framesT (l.take (k + 1)) = framesT (l.take k) ++ frameB T := by
  obtain ⟨hk, rfl⟩ := List.getElem?_eq_some_iff.1 h
  rw [List.take_succ_eq_append_getElem hk, framesT_append]
  simp only [framesT]
  rw [append_nil]
theorem framesOk_no1 {l : List ByteArray} {k : Nat} {T : ByteArray} (h : l[k]? = some T) (hf : fits1 T = false) : framesOk l = false := by
  cases hb : framesOk l
  · rfl
  · have := (framesOk_all hb).2.1 T (List.mem_of_getElem? h)
    rw [hf] at this; cases this
theorem framesOk_no2 {l : List ByteArray} {k : Nat} {T : ByteArray} (h : l[k]? = some T) (hf : 300000 < (framesT (l.take k)).size + (frameB T).size) : framesOk l = false := by
  cases hb : framesOk l
  · rfl
  · have h1 := (framesOk_all hb).2.2
    have h2 := framesT_take_le (l := l) (k + 1)
    rw [framesT_next h, ByteArray.size_append] at h2
    omega
theorem framesOk_yes {l : List ByteArray} (h0 : l.length ≤ 600) (h1 : ∀ T ∈ l, fits1 T = true) (h2 : (framesT l).size ≤ 300000) : framesOk l = true := by
  simp only [framesOk, Bool.and_eq_true, decide_eq_true_eq, List.all_eq_true]
  exact ⟨⟨h0, h1⟩, h2⟩
/-- What comes back of frames that are cut at k. -/
theorem unf_of_cut {l : List ByteArray} (h : framesOk l = true) {k : Nat} (hk : k ≤ (framesT l).size) :
    ∃ m, m ≤ l.length ∧ unf ((framesT l).extract 0 k) = (l.take m, (framesT (l.take m)).size) ∧ (framesT (l.take m)).size ≤ k ∧ ∀ (hm : m < l.length), k < (framesT (l.take m)).size + (frameB l[m]).size := by
  obtain ⟨h0, h1, h2⟩ := framesOk_all h
  obtain ⟨m, a1, a2, a3, a4⟩ := unf_cut ((framesT l).extract 0 k) l 600 0 k h1 h0 hk (Rest.start _)
  refine ⟨m, a1, ?_, a3, a4⟩
  rw [unf, if_pos (by rw [ByteArray.size_extract]; omega), a2, Nat.zero_add]
theorem unf_whole {l : List ByteArray} (h : framesOk l = true) : unf (framesT l) = (l, (framesT l).size) := by
  obtain ⟨m, h1, h2, h3, h4⟩ := unf_of_cut h (Nat.le_refl _)
  rw [extract_all (Nat.le_refl _)] at h2
  have hm : m = l.length := by
    rcases Nat.lt_or_ge m l.length with hlt | hge
    · have h5 := h4 hlt
      have h6 := framesT_take_le (l := l) (m + 1)
      rw [framesT_next (List.getElem?_eq_getElem hlt), ByteArray.size_append] at h6
      omega
    · omega
  rw [hm, List.take_length] at h2
  exact h2
end Go.Proofs.Ytichegndafnjeaa
