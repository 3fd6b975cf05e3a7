/-
  LeafBk; FramesLaw; FramesWk: No condition.
-/
import Derived.Test.YthnpdoadmglipaaGreatReadLf
import Derived.Test.YthnpdoadmglipaaGreatUnfrLaw
import Derived.Test.YthnpdoadmglipaaGreatMerkle
import Derived.Test.YthnpdoadmglipaaGreatRets
import Derived.Test.YthnpdoadmglipaaGreatAppNew
namespace Go.Proofs.YthnpdoadmglipaaGreat
set_option linter.unusedSimpArgs false
open Go.RowKit
set_option linter.unusedVariables false
def Rest (T : ByteArray) (r : Rd) (Y : ByteArray) : Prop := r.bad = false ∧ ∃ X, T = X ++ Y ∧ X.size = r.pos
theorem Rest.start (T : ByteArray) : Rest T ⟨0, false⟩ T := ⟨rfl, ⟨#[]⟩, by rw [show (⟨#[]⟩ : ByteArray) ++ T = T from ByteArray.empty_append], rfl⟩
theorem part_mid (X a Y : ByteArray) : (X ++ (a ++ Y)).extract X.size (X.size + a.size) = a := by
 have h1 : (X ++ (a ++ Y)).extract X.size (X.size + a.size) = (X ++ (a ++ Y)).extract (X.size + 0) (X.size + a.size) := rfl
 apply ByteArray.ext
 rw [← Array.toList_inj]
 simp [ByteArray.data_extract, ByteArray.data_append, List.drop_append, List.take_append, ← ByteArray.size_data]
theorem Rest.take {T : ByteArray} {r : Rd} {a Y : ByteArray} {n : Nat} (h : Rest T r (a ++ Y)) (hn : a.size = n) : rdTake T r n = a ∧ Rest T (rdNext T r n) Y := by
 obtain ⟨hb, X, rfl, hX⟩ := h
 subst hn
 have hf : rdFails (X ++ (a ++ Y)) r a.size = false := by
  simp only [rdFails, hb, Bool.false_or, decide_eq_false_iff_not, ByteArray.size_append]
  omega
 refine ⟨?_, ?_, X ++ a, ?_, ?_⟩
 · rw [rdTake, hf, ← hX]; exact part_mid X a Y
 · rw [rdNext, hf]; rfl
 · rw [ByteArray.append_assoc]
 · rw [rdNext, hf, ByteArray.size_append, hX]; rfl
theorem Rest.short {T : ByteArray} {r : Rd} {b a Y : ByteArray} {n : Nat} (h : Rest T r (b ++ (a ++ Y))) (hn : b.size = n) (hb : beNum b = a.size) : rdShort T r n = a ∧ Rest T (rdShortNext T r n) Y := by
 obtain ⟨h1, h2⟩ := h.take hn
 rw [rdShort, rdShortNext, h1, hb]
 exact h2.take rfl
theorem Rest.done {T : ByteArray} {r : Rd} (h : Rest T r ⟨#[]⟩) : rdDone T r = true := by
 obtain ⟨hb, X, rfl, hX⟩ := h
 rw [rdDone, hb, show X ++ (⟨#[]⟩ : ByteArray) = X from ByteArray.append_empty, hX]
 simp
theorem beNum_oct (k : Nat) (h : k < 256) : beNum (octB (k : Int)) = k := by
 have : (UInt8.ofNat k).toNat = k := by simp [UInt8.toNat_ofNat']; omega
 simp [beNum, octB, ofInts, this]
 omega
theorem beNum_oct2 (k : Nat) (h : k < 65536) : beNum (octB ((k : Int) / 256) ++ octB (k : Int)) = k := by
 have e : (k : Int) / 256 = ((k / 256 : Nat) : Int) := by omega
 rw [e]
 simp [beNum, octB, ofInts, ByteArray.data_append, UInt8.toNat_ofNat']
 omega
theorem beNum_four (k : Nat) (h : k < 4294967296) : beNum (lowB k 4) = k := by
 show beNum (octB ((k / 256 ^ 3 : Nat) : Int) ++ (octB ((k / 256 ^ 2 : Nat) : Int) ++ (octB ((k / 256 ^ 1 : Nat) : Int) ++ (octB ((k / 256 ^ 0 : Nat) : Int) ++ ⟨#[]⟩)))) = k
 simp [beNum, octB, ofInts, ByteArray.data_append, UInt8.toNat_ofNat']
 omega
theorem two_size (a b : Int) : (octB a ++ octB b).size = 2 := by rw [ByteArray.size_append]; rfl
theorem nat_of {x : Int} (h : 0 ≤ x) : ∃ k : Nat, x = (k : Int) := ⟨x.toNat, by omega⟩
theorem receipt_back {d : ReceiptD} (h : receiptOk d = true) : rrImpl (receiptText d) = true ∧ rrD (receiptText d) = d := by
 obtain ⟨a, t, i⟩ := d
 have hk := h
 simp only [receiptOk, Bool.and_eq_true] at h
 obtain ⟨⟨h1, h2⟩, h3⟩ := h
 have s1 := nameOk_size h1
 have s2 := nameOk_size h2
 obtain ⟨i0, i1⟩ := inR_true h3
 obtain ⟨k, rfl⟩ := nat_of i0
 have R0 := Rest.start (receiptText ⟨a, t, (k : Int)⟩)
 have e : receiptText ⟨a, t, (k : Int)⟩ = ⟨#[82]⟩ ++ (octB a.size ++ (a ++ (octB t.size ++ (t ++ ((octB ((k : Int) / 256) ++ octB (k : Int)) ++ ⟨#[]⟩))))) := by
  rw [receiptText, hk, if_pos rfl, receiptT, show ∀ X : ByteArray, X ++ (⟨#[]⟩ : ByteArray) = X from fun X => ByteArray.append_empty]
  simp only [ByteArray.append_assoc]
 generalize receiptText ⟨a, t, (k : Int)⟩ = T at *
 rw [e] at R0
 obtain ⟨p0, R1⟩ := R0.take (n := 1) rfl
 rw [← e] at p0 R1
 obtain ⟨p1, R2⟩ := R1.short (n := 1) rfl (beNum_oct _ (by omega))
 obtain ⟨p2, R3⟩ := R2.short (n := 1) rfl (beNum_oct _ (by omega))
 obtain ⟨p3, R4⟩ := R3.take (n := 2) (two_size _ _)
 have hD : rrD T = ⟨a, t, (k : Int)⟩ := by
  show (⟨rdShort T (rr1 T) 1, rdShort T (rr2 T) 1, (beNum (rdTake T (rr3 T) 2) : Int)⟩ : ReceiptD) = _
  rw [show rdShort T (rr1 T) 1 = a from p1, show rdShort T (rr2 T) 1 = t from p2, show rdTake T (rr3 T) 2 = _ from p3, beNum_oct2 _ (by omega)]
 refine ⟨?_, hD⟩
 rw [rrImpl, hD, hk, rrKind, show rdTake T rr0 1 = _ from p0, show rdDone T (rr4 T) = true from R4.done, kind_of]
 simp
theorem leaf_back {d : EntryD} (h : entryOk d = true) : rlImpl (leafText d) = true ∧ rlD (leafText d) = d := by
 obtain ⟨t, i, m, y, b⟩ := d
 have hk := h
 simp only [entryOk, partsB, Bool.and_eq_true, decide_eq_true_eq] at h
 obtain ⟨⟨h1, h3⟩, ⟨h4, h5⟩, h6⟩ := h
 have s1 := nameOk_size h1
 obtain ⟨i0, i1⟩ := inR_true h3
 obtain ⟨m0, m1⟩ := inR_true h4
 obtain ⟨k, rfl⟩ := nat_of i0
 obtain ⟨n, rfl⟩ := nat_of m0
 (try simp only at s1 h5 h6 i1 m1)
 have R0 := Rest.start (leafText ⟨t, (k : Int), (n : Int), y, b⟩)
 have e : leafText ⟨t, (k : Int), (n : Int), y, b⟩ = ⟨#[69]⟩ ++ (octB t.size ++ (t ++ ((octB ((k : Int) / 256) ++ octB (k : Int)) ++ (lowB n 4 ++ (octB y.size ++ (y ++ ((octB ((b.size : Int) / 256) ++ octB (b.size : Int)) ++ (b ++ ⟨#[]⟩)))))))) := by
  rw [leafText, hk, if_pos rfl, leafT, show ∀ X : ByteArray, X ++ (⟨#[]⟩ : ByteArray) = X from fun X => ByteArray.append_empty]
  simp only [ByteArray.append_assoc, Int.toNat_natCast]
 generalize leafText ⟨t, (k : Int), (n : Int), y, b⟩ = T at *
 rw [e] at R0
 obtain ⟨p0, R1⟩ := R0.take (n := 1) rfl
 rw [← e] at p0 R1
 obtain ⟨p1, R2⟩ := R1.short (n := 1) rfl (beNum_oct _ (by omega))
 obtain ⟨p2, R3⟩ := R2.take (n := 2) (two_size _ _)
 obtain ⟨p3, R4⟩ := R3.take (n := 4) rfl
 obtain ⟨p4, R5⟩ := R4.short (n := 1) rfl (beNum_oct _ (by omega))
 obtain ⟨p5, R6⟩ := R5.short (n := 2) (two_size _ _) (beNum_oct2 _ (by omega))
 have hD : rlD T = ⟨t, (k : Int), (n : Int), y, b⟩ := by
  show (⟨rdShort T (rl1 T) 1, (beNum (rdTake T (rl2 T) 2) : Int), (beNum (rdTake T (rl3 T) 4) : Int), rdShort T (rl4 T) 1, rdShort T (rl5 T) 2⟩ : EntryD) = _
  rw [show rdShort T (rl1 T) 1 = t from p1, show rdTake T (rl2 T) 2 = _ from p2, show rdTake T (rl3 T) 4 = _ from p3, show rdShort T (rl4 T) 1 = y from p4, show rdShort T (rl5 T) 2 = b from p5, beNum_oct2 _ (by omega), beNum_four _ (by omega)]
 refine ⟨?_, hD⟩
 rw [rlImpl, hD, hk, rlKind, show rdTake T rl0 1 = _ from p0, show rdDone T (rl6 T) = true from R6.done, kind_of]
 simp
def fits1 (T : ByteArray) : Bool := inR T.size 1 1000
def framesT : List ByteArray → ByteArray
 | [] => ⟨#[]⟩
 | T :: l => frameB T ++ framesT l
theorem framesT_append : ∀ (a b : List ByteArray), framesT (a ++ b) = framesT a ++ framesT b
 | [], b => by simp [framesT]; exact ByteArray.empty_append.symm
 | T :: a, b => by rw [List.cons_append, framesT, framesT, framesT_append a b, ByteArray.append_assoc]
theorem frameB_size {T : ByteArray} (h : fits1 T = true) : (frameB T).size = T.size + 6 := by
 have := dig4_size h
 have := lowB_size T.size 2
 rw [frameB, ByteArray.size_append, ByteArray.size_append]; omega
theorem fits1_le {T : ByteArray} (h : fits1 T = true) : 1 ≤ T.size ∧ T.size ≤ 1000 := by
 obtain ⟨h0, h1⟩ := inR_true h
 omega
theorem beNum_low2 {n : Nat} (h : n < 65536) : beNum (lowB n 2) = n := by rw [lowB_two]; exact beNum_oct2 n h
theorem frame_at {U T Y : ByteArray} {p : Nat} (h : Rest U (fa0 p) (frameB T ++ Y)) (ht : fits1 T = true) :
 faOk U p = true ∧ faText U p = T ∧ Rest U (fa3 U p) Y ∧ (fa3 U p).pos = p + (frameB T).size := by
 obtain ⟨t0, t1⟩ := fits1_le ht
 have e : frameB T ++ Y = lowB T.size 2 ++ (digest 4 4 T ++ (T ++ Y)) := by rw [frameB, ByteArray.append_assoc, ByteArray.append_assoc]
 rw [e] at h
 obtain ⟨h1, h2⟩ := h.take (n := 2) (lowB_size _ _)
 obtain ⟨h3, h4⟩ := h2.take (n := 4) (dig4_size ht)
 have hN : faN U p = T.size := by rw [faN, h1, beNum_low2 (by omega)]
 obtain ⟨h5, h6⟩ := h4.take (n := faN U p) hN.symm
 have hT : faText U p = T := h5
 have hS : faSum U p = digest 4 4 T := h3
 have hb : (fa3 U p).bad = false := h6.1
 have hok : faOk U p = true := by
  simp only [faOk, hb, hT, hS, hN, Bool.and_eq_true, Bool.not_false, true_and]
  exact ⟨ht, beq_self_eq_true _⟩
 exact ⟨hok, hT, h6, by rw [(faOk_pos hok).1, hN, frameB_size ht]; omega⟩
theorem Rest.size {U Y : ByteArray} {r : Rd} (h : Rest U r Y) : U.size = r.pos + Y.size := by
 obtain ⟨_, X, rfl, hX⟩ := h
 rw [ByteArray.size_append, hX]
theorem cut_two {A B : ByteArray} {j : Nat} : (A ++ B).extract 0 j = A.extract 0 j ++ B.extract 0 (j - A.size) := by
 rw [ByteArray.extract_append]
 simp
theorem extract_all {A : ByteArray} {j : Nat} (h : A.size ≤ j) : A.extract 0 j = A := by
 apply ByteArray.ext
 rw [← Array.toList_inj]
 simp [ByteArray.data_extract]
 rw [List.take_of_length_le]
 simpa [← ByteArray.size_data] using h
theorem faOk_short2 {T : ByteArray} {p : Nat} (h : ¬ p + 6 + faN T p ≤ T.size) : faOk T p = false := by
 cases b : faOk T p
 · rfl
 · exact absurd (fa_bad b) h
theorem frame_cut {U T : ByteArray} {p j : Nat} (h : Rest U (fa0 p) ((frameB T).extract 0 j)) (ht : fits1 T = true) (hj : j < (frameB T).size) : faOk U p = false := by
 obtain ⟨t0, t1⟩ := fits1_le ht
 have hfs := frameB_size ht
 have hs := h.size
 rw [ByteArray.size_extract] at hs
 have hp : (fa0 p).pos = p := rfl
 rw [hp] at hs
 refine faOk_short2 ?_
 intro hle
 have hj2 : 2 ≤ j := by omega
 have e : (frameB T).extract 0 j = lowB T.size 2 ++ (digest 4 4 T ++ T).extract 0 (j - 2) := by
  rw [frameB, ByteArray.append_assoc, cut_two, extract_all (by rw [lowB_size]; exact hj2), lowB_size]
 rw [e] at h
 obtain ⟨h1, _⟩ := h.take (n := 2) (lowB_size _ _)
 have hN : faN U p = T.size := by rw [faN, h1, beNum_low2 (by omega)]
 omega
theorem unf_cut (U : ByteArray) : ∀ (l : List ByteArray) (f p j : Nat), (∀ T ∈ l, fits1 T = true) → l.length ≤ f → j ≤ (framesT l).size → Rest U (fa0 p) ((framesT l).extract 0 j) →
 ∃ m, m ≤ l.length ∧ unfGo U f p = (l.take m, p + (framesT (l.take m)).size) ∧ (framesT (l.take m)).size ≤ j ∧ ∀ (hm : m < l.length), j < (framesT (l.take m)).size + (frameB l[m]).size
 | [], f, p, j, _, _, hj, h => by
   have hs := h.size
   simp only [framesT, ByteArray.size_extract] at hs
   have hp : (fa0 p).pos = p := rfl
   have hz : (framesT []).size = 0 := rfl
   have hj0 : j = 0 := by omega
   have hk : faOk U p = false := faOk_short2 (by
    have : (⟨#[]⟩ : ByteArray).size = 0 := rfl
    omega)
   refine ⟨0, Nat.le_refl _, ?_, Nat.zero_le _, fun hm => absurd hm (Nat.lt_irrefl 0)⟩
   cases f with
   | zero => rfl
   | succ f => rw [unfGo, if_neg (by rw [hk]; decide)]; rfl
 | T :: l, f, p, j, ht, hf, hj, h => by
   have t1 := ht T (by simp)
   obtain ⟨f, rfl⟩ : ∃ f', f = f' + 1 := ⟨f - 1, by simp at hf; omega⟩
   by_cases hF : (frameB T).size ≤ j
   · rw [framesT, cut_two, extract_all hF] at h
     obtain ⟨a1, a2, a3, a4⟩ := frame_at h t1
     have hr : Rest U (fa0 (p + (frameB T).size)) ((framesT l).extract 0 (j - (frameB T).size)) := by
      have e3 : fa3 U p = fa0 (p + (frameB T).size) := by
       have hb := a3.1
       cases hfa : fa3 U p with
       | mk pos bad => rw [hfa] at a4 hb; simp only at a4 hb; rw [a4, hb]; rfl
      rw [← e3]; exact a3
     obtain ⟨m, hm, h1, h2, h3⟩ := unf_cut U l f (p + (frameB T).size) (j - (frameB T).size) (fun x hx => ht x (by simp [hx])) (by simp at hf; exact hf) (by rw [framesT, ByteArray.size_append] at hj; omega) hr
     refine ⟨m + 1, by simp; omega, ?_, ?_, fun hlt => ?_⟩
     · rw [unfGo, if_pos a1, a2, a4, h1, List.take_succ_cons, framesT, ByteArray.size_append]
       simp only [Prod.mk.injEq, true_and]; omega
     · rw [List.take_succ_cons, framesT, ByteArray.size_append]; omega
     · have := h3 (by simp at hlt; exact hlt)
       rw [List.take_succ_cons, framesT, ByteArray.size_append, List.getElem_cons_succ]; omega
   · rw [framesT, cut_two, show j - (frameB T).size = 0 by omega] at h
     have hk : faOk U p = false := frame_cut (j := j) (by
      have e : (framesT l).extract 0 0 = ⟨#[]⟩ := by apply ByteArray.ext; simp [ByteArray.data_extract]
      rw [e, append_nil] at h; exact h) t1 (by omega)
     exact ⟨0, Nat.zero_le _, by rw [unfGo, if_neg (by rw [hk]; decide)]; rfl, Nat.zero_le _, fun _ => by show j < 0 + (frameB T).size; omega⟩
def framesOk (l : List ByteArray) : Bool := decide (l.length ≤ 600) && l.all fits1 && decide ((framesT l).size ≤ 300000)
def framesOut (l : List ByteArray) : ByteArray := if framesOk l then framesT l else ⟨#[]⟩
theorem framesOk_all {l : List ByteArray} (h : framesOk l = true) : l.length ≤ 600 ∧ (∀ T ∈ l, fits1 T = true) ∧ (framesT l).size ≤ 300000 := by
 simp only [framesOk, Bool.and_eq_true, decide_eq_true_eq, List.all_eq_true] at h
 exact ⟨h.1.1, h.1.2, h.2⟩
theorem framesT_take_le {l : List ByteArray} (k : Nat) : (framesT (l.take k)).size ≤ (framesT l).size := by
 have : framesT l = framesT (l.take k) ++ framesT (l.drop k) := by rw [← framesT_append, List.take_append_drop]
 rw [this, ByteArray.size_append]; omega
theorem framesT_next {l : List ByteArray} {k : Nat} {T : ByteArray} (h : l[k]? = some T) : framesT (l.take (k + 1)) = framesT (l.take k) ++ frameB T := by
 obtain ⟨hk, rfl⟩ := List.getElem?_eq_some_iff.1 h
 rw [List.take_succ_eq_append_getElem hk, framesT_append]
 simp only [framesT]
 rw [append_nil]
theorem framesOk_no1 {l : List ByteArray} {k : Nat} {T : ByteArray} (h : l[k]? = some T) (hf : fits1 T = false) : framesOk l = false := by
 cases hb : framesOk l
 · rfl
 · have := (framesOk_all hb).2.1 T (List.mem_of_getElem? h)
   rw [hf] at this; cases this
theorem framesOk_no2 {l : List ByteArray} {k : Nat} {T : ByteArray} (h : l[k]? = some T) (hf : 300000 < (framesT (l.take k)).size + (frameB T).size) : framesOk l = false := by
 cases hb : framesOk l
 · rfl
 · have h1 := (framesOk_all hb).2.2
   have h2 := framesT_take_le (l := l) (k + 1)
   rw [framesT_next h, ByteArray.size_append] at h2
   omega
theorem framesOk_yes {l : List ByteArray} (h0 : l.length ≤ 600) (h1 : ∀ T ∈ l, fits1 T = true) (h2 : (framesT l).size ≤ 300000) : framesOk l = true := by
 simp only [framesOk, Bool.and_eq_true, decide_eq_true_eq, List.all_eq_true]
 exact ⟨⟨h0, h1⟩, h2⟩
theorem unf_of_cut {l : List ByteArray} (h : framesOk l = true) {k : Nat} (hk : k ≤ (framesT l).size) :
 ∃ m, m ≤ l.length ∧ unf ((framesT l).extract 0 k) = (l.take m, (framesT (l.take m)).size) ∧ (framesT (l.take m)).size ≤ k ∧ ∀ (hm : m < l.length), k < (framesT (l.take m)).size + (frameB l[m]).size := by
 obtain ⟨h0, h1, h2⟩ := framesOk_all h
 obtain ⟨m, a1, a2, a3, a4⟩ := unf_cut ((framesT l).extract 0 k) l 600 0 k h1 h0 hk (Rest.start _)
 refine ⟨m, a1, ?_, a3, a4⟩
 rw [unf, if_pos (by rw [ByteArray.size_extract]; omega), a2, Nat.zero_add]
theorem unf_whole {l : List ByteArray} (h : framesOk l = true) : unf (framesT l) = (l, (framesT l).size) := by
 obtain ⟨m, h1, h2, h3, h4⟩ := unf_of_cut h (Nat.le_refl _)
 rw [extract_all (Nat.le_refl _)] at h2
 have hm : m = l.length := by
  rcases Nat.lt_or_ge m l.length with hlt | hge
  · have h5 := h4 hlt
    have h6 := framesT_take_le (l := l) (m + 1)
    rw [framesT_next (List.getElem?_eq_getElem hlt), ByteArray.size_append] at h6
    omega
  · omega
 rw [hm, List.take_length] at h2
 exact h2
set_option maxHeartbeats 4000000
set_option maxRecDepth 100000
theorem implFrame_any (T : ByteArray) (w : World) (hT : T.size ≤ maxLen) : Calls Tryz.prog 112 #[.string T] w fun e w' => e = .returned (.tuple #[.string (frameOut T), .bool (fits1 T)]) ∧ Ext w w' := by
 have HT := hU hT
 unfold maxLen at hT
 unfold fits1
 cases b1 : inR T.size 1 1000
 · have E := hU (show frameOut T = ⟨#[]⟩ by simp [frameOut, b1])
   go_enter Tryz.func112, Tryz.ntmps112
   go_wp2_with (go_at_call 58; refine (inRange_any _ _ _ _).mono ?_; rintro e w' ⟨rfl, rfl⟩)
   go_ret2
   exact ⟨by rw [E.out]; rfl, Below.refl _ _⟩
 · have E := hU (show frameOut T = frameB T by simp [frameOut, b1])
   obtain ⟨h0, h1⟩ := inR_true b1
   have d4 := dig4_size b1
   have l2 := lowB_size T.size 2
   have n1 : ¬ 9223372036854775807 < (lowB T.size 2).size + (digest 4 4 T).size := by omega
   have n2 : ¬ 9223372036854775807 < (lowB T.size 2).size + (digest 4 4 T).size + T.size := by omega
   have he := Below.refl w.heap.size w
   go_enter Tryz.func112, Tryz.ntmps112
   go_wp2_with (go_at_call 58; refine (inRange_any _ _ _ _).mono ?_; rintro e w' ⟨rfl, rfl⟩)
   refine (Digest_any 4 4 T _ HT.out).mono ?_
   rintro e w1 ⟨rfl, hx⟩
   replace he : Ext w w1 := Ext.next he hx
   go_wp2_with fail
   refine (pair_any T.size _ (by omega) (by omega)).mono ?_
   rintro e w2 ⟨rfl, hx⟩
   rw [← lowB_two]
   replace he : Ext w w2 := he.next hx
   go_wp2_with fail
   go_ret2
   exact ⟨by rw [E.out]; rfl, he⟩
theorem frameOut_fits {T : ByteArray} (h : fits1 T = true) : frameOut T = frameB T := by
 unfold frameOut; unfold fits1 at h; rw [if_pos h]
structure FInv (l : List ByteArray) (k : Nat) : Prop where
 le : k ≤ l.length
 fits : ∀ T ∈ l.take k, fits1 T = true
 small : (framesT (l.take k)).size ≤ 300000
theorem FInv.start (l : List ByteArray) : FInv l 0 := ⟨Nat.zero_le _, by simp, by simp [framesT]; exact Nat.zero_le _⟩
theorem FInv.next {l : List ByteArray} {k : Nat} {T : ByteArray} (h : FInv l k) (hT : l[k]? = some T) (hf : fits1 T = true) (hs : (framesT (l.take k)).size + (frameB T).size ≤ 300000) : FInv l (k + 1) := by
 obtain ⟨hk, he⟩ := List.getElem?_eq_some_iff.1 hT
 refine ⟨hk, fun x hx => ?_, by rw [framesT_next hT, ByteArray.size_append]; exact hs⟩
 rw [List.take_succ_eq_append_getElem hk] at hx
 rcases List.mem_append.1 hx with hx | hx
 · exact h.fits x hx
 · obtain rfl : x = l[k] := by simpa using hx
   rw [he]; exact hf
theorem FInv.done {l : List ByteArray} (h : FInv l l.length) (hl : l.length ≤ 600) : framesOk l = true := by
 obtain ⟨_, h1, h2⟩ := h
 rw [List.take_length] at h1 h2
 exact framesOk_yes hl h1 h2
theorem framesOut_no {l : List ByteArray} (h : framesOk l = false) : framesOut l = ⟨#[]⟩ := by simp [framesOut, h]
theorem framesOut_yes {l : List ByteArray} (h : framesOk l = true) : framesOut l = framesT l := by simp [framesOut, h]
theorem framesOk_long {l : List ByteArray} (h : ¬ l.length ≤ 600) : framesOk l = false := by simp [framesOk, h]
theorem sone_at {l : List ByteArray} {w : World} {b off : Nat} {k : Nat} {d : ByteArray} (hc : ∀ j u, (l.flatMap sone)[k * 1 + j]? = some u → w.cell? ⟨b, off + k * 1 + j, none⟩ = some u) (hd : l[k]? = some d) :
 w.cell? ⟨b, off + k, none⟩ = some (.string d) := by
 have := hc 0 _ (flat_at sone 1 sone_length l k 0 d hd (by omega))
 rwa [Nat.add_zero, Nat.mul_one] at this
theorem implFrames_any (A : Option Addr) (c : Nat) (l : List ByteArray) (w : World) (hr : ReadsL w w.heap.size sone 1 A l) (hl : l.length ≤ 1048576) (hs : ∀ T ∈ l, T.size ≤ maxLen) :
 Calls Tryz.prog 71 #[.slice A l.length c] w fun e w' => e = .returned (.tuple #[.string (framesOut l), .bool (framesOk l)]) ∧ Ext w w' := by
 by_cases h6 : l.length ≤ 600
 case neg =>
  have E := hU (framesOk_long h6)
  go_enter Tryz.func71, Tryz.ntmps71
  go_wp2_with fail
  go_ret2
  exact ⟨by rw [framesOut_no E.out, E.out]; rfl, Below.refl _ _⟩
 have HS := hU hs; clear hs
 have hfresh := hU (Lib.fresh_isBuilder 171 5 w)
 have He := hU (Ext.new (Below.refl w.heap.size w) (.cells #[.pointer none, .slice none 0 0] 171))
 go_enter Tryz.func71, Tryz.ntmps71
 go_wp2_with fail
 obtain ⟨b, hb⟩ : ∃ b, b = w.heap.size := ⟨_, rfl⟩
 rw [← hb] at hfresh
 rw [← hb]
 have hr' : ReadsL w b sone 1 A l := by rw [hb]; exact hr
 have He2 : ∀ w', Ext w w' → Below b w w' := fun w' h => by rw [hb]; exact h
 have Hb := hU hb
 have HA := hU (He2 _ He.out)
 clear hb hr He2 He
 go_loopw [14] (fun x wr => ∃ (k : Nat), FInv l k ∧ x = .int .i64 k ∧ Lib.IsBuilder 171 5 b b (bstr (framesT (l.take k))) wr ∧ Below b w wr ∧ b ≤ wr.heap.size) (fun x _ => l.length - (intOf x).toNat)
 case atStart => exact ⟨0, FInv.start l, rfl, hfresh.out, HA.out, by have := Hb.out; simp; omega⟩
 case round =>
  obtain ⟨k, hI, rfl, hB, he, hbs⟩ := hrel
  clear hfresh HA
  have KB := hU hB
  have HI := hU hI
  have hk := hI.le
  have hsm := hI.small
  clear hB hI
  by_cases hlt : k < l.length
  case neg =>
   obtain rfl : k = l.length := by omega
   have E := hU (HI.out.done h6)
   have hB := KB.out
   rw [List.take_length] at hB
   have hdk : decide ((l.length : Int) < (l.length : Int)) = false := by simp
   clear KB
   go_wp2_with fail
   refine (BuilderString_any b b _ _ hB hbs).mono ?_
   rintro e w2 ⟨rfl, e2⟩
   have he2 := he.trans e2
   clear hB e2 he
   go_wp2_with fail
   go_ret2
   exact ⟨by rw [framesOut_yes E.out, E.out]; rfl, by rw [Hb.out] at he2; exact he2⟩
  have hdk : decide ((k : Int) < (l.length : Int)) = true := by rw [decide_eq_true_eq]; omega
  obtain ⟨g, off, rfl, hg, hc⟩ := (hr'.below he).at_ (k := k) hlt
  obtain ⟨T, hT⟩ : ∃ T, T = l[k] := ⟨_, rfl⟩
  have hTl : l[k]? = some T := by rw [hT]; exact List.getElem?_eq_getElem hlt
  have c0 := sone_at hc hTl
  have HTl := hU hTl
  have HTs := hU (HS.out T (List.mem_of_getElem? hTl))
  clear hc hT hTl
  go_wp2_with fail
  refine (implFrame_any T _ HTs.out).mono ?_
  rintro e w1 ⟨rfl, e1⟩
  have hB1 := hU (isBuilder_ext KB.out e1)
  have he1 := he.trans (e1.mono hbs)
  have hbs1 : b ≤ w1.heap.size := Nat.le_trans hbs e1.size
  clear c0 KB he hbs e1
  cases hf : fits1 T
  · have E := hU (framesOk_no1 HTl.out hf)
    go_wp2_with fail
    go_ret2
    exact ⟨by rw [framesOut_no E.out, E.out]; rfl, by rw [Hb.out] at he1; exact he1⟩
  rw [frameOut_fits hf]
  have hfs := frameB_size hf
  obtain ⟨t0, t1⟩ := fits1_le hf
  have Hsn := hU (framesT_next HTl.out)
  have hbl := bstr_len (framesT (l.take k))
  have LB := hU (BuilderLen_any b b _ _ hB1.out)
  rw [hbl] at LB
  go_wp2_with fail
  refine LB.out.mono ?_
  rintro e w2 ⟨rfl, rfl⟩
  clear LB
  by_cases hfit : (framesT (l.take k)).size + (frameB T).size ≤ 300000
  case neg =>
   have E := hU (framesOk_no2 HTl.out (by omega))
   go_wp2_with fail
   go_ret2
   exact ⟨by rw [framesOut_no E.out, E.out]; rfl, by rw [Hb.out] at he1; exact he1⟩
  have HN := hU (HI.out.next HTl.out hf hfit)
  have WS := hU (WriteString_any b b _ (frameB T) _ hB1.out (by rw [hbl]; omega) hbs1)
  go_wp2_with fail
  refine WS.out.mono ?_
  rintro e w3 ⟨rfl, hB2, e2⟩
  have hB3 : Lib.IsBuilder 171 5 b b (bstr (framesT (l.take (k + 1)))) w3 := by rw [Hsn.out, bstr_append]; exact .inr hB2
  have KB := hU hB3
  have he2 := he1.trans e2
  have hbs2 : b ≤ w3.heap.size := Nat.le_trans hbs1 e2.size
  clear hB1 hB2 hB3 he1 e2 hbs1 WS
  go_wp2_with fail
  go_roundw
  case rel => exact ⟨k + 1, HN.out, by go_num, KB.out, he2, hbs2⟩
  case measure => simp [intOf]; omega
theorem specFrames_any (A : Option Addr) (c : Nat) (l : List ByteArray) (w : World) (hr : ReadsL w w.heap.size sone 1 A l) (hl : l.length ≤ 1048576) (hs : ∀ T ∈ l, T.size ≤ maxLen) :
 Calls Tryz.prog 163 #[.slice A l.length c] w fun e w' => e = .returned (.tuple #[.string (framesOut l), .bool (framesOk l)]) ∧ Ext w w' := by
 by_cases h6 : l.length ≤ 600
 case neg =>
  have E := hU (framesOk_long h6)
  go_enter Tryz.func163, Tryz.ntmps163
  go_wp2_with fail
  go_ret2
  exact ⟨by rw [framesOut_no E.out, E.out]; rfl, Below.refl _ _⟩
 have HS := hU hs; clear hs
 have HR := hU hr; clear hr
 obtain ⟨i0, hinf, hz0, hz1, hz2⟩ := info_parts info_u8
 have H0 := hU (ownsRow_empty w 5 1)
 have He := hU (Ext.new (Below.refl w.heap.size w) (.cells #[] 5))
 go_enter Tryz.func163, Tryz.ntmps163
 go_wp2_with fail
 obtain ⟨B, hB⟩ : ∃ B, B = w.heap.size := ⟨_, rfl⟩
 rw [← hB] at H0
 rw [← hB]
 have Hb : w.heap.size ≤ B := by omega
 have HB := hU hB
 clear hB
 go_loopw [4, 5] (fun v x wr => ∃ k : Nat, FInv l k ∧ x = .int .i64 k ∧ OwnB B wr v (framesT (l.take k)).size (intsOf (framesT (l.take k))) ∧ (k = 0 → ∃ a c, v = .slice (some a) 0 c) ∧ Ext w wr) (fun _ x _ => l.length - (intOf x).toNat)
 case atStart => exact ⟨0, FInv.start l, rfl, H0.out, fun _ => ⟨_, _, rfl⟩, He.out⟩
 case round =>
  clear H0 He
  obtain ⟨k, hI, rfl, hown, hz, he⟩ := hrel
  obtain ⟨A', c', rfl, hnc⟩ := ownsRow_form hown
  have KO := hU hown
  have HI := hU hI
  have HZ := hU hz
  have hk := hI.le
  have hsm := hI.small
  clear hown hI hz
  by_cases hlt : k < l.length
  case neg =>
   obtain rfl : k = l.length := by omega
   have E := hU (HI.out.done h6)
   have hown := KO.out
   have hconv : (convert 22 9 (.slice A' (framesT (l.take l.length)).size c')).run Tryz.prog wr = .ok (.string (framesT l)) wr := by
    rw [List.take_length] at hown ⊢
    rcases Nat.eq_zero_or_pos l.length with h0 | h0
    · obtain ⟨a, c2, ha⟩ := HZ.out h0
      obtain rfl := List.eq_nil_of_length_eq_zero h0
      obtain ⟨rfl, _, rfl⟩ : A' = some a ∧ (framesT (List.take ([] : List ByteArray).length [])).size = 0 ∧ c' = c2 := by simpa using ha
      exact string0 _ _ _
    · have hpos : 0 < (framesT l).size := by
       cases l with
       | nil => simp at h0
       | cons T l =>
         have h1 := frameB_size ((framesOk_all E.out).2.1 T (by simp))
         rw [framesT, ByteArray.size_append]; omega
      have := own_string (n := (framesT l).size) (by rw [intsOf_len]) hown hpos (intsOf_rng _)
      rwa [ofInts_intsOf] at this
   have hdk : decide ((l.length : Int) < (l.length : Int)) = false := by simp
   have hconv2 := hconv
   rw [List.take_length] at hconv2
   clear KO hown
   go_wp2_with fail
   go_ret2
   exact ⟨by rw [framesOut_yes E.out, E.out]; rfl, he⟩
  have hdk : decide ((k : Int) < (l.length : Int)) = true := by rw [decide_eq_true_eq]; omega
  obtain ⟨g, off, rfl, hg, hc⟩ := (HR.out.ext he).at_ (k := k) hlt
  obtain ⟨T, hT⟩ : ∃ T, T = l[k] := ⟨_, rfl⟩
  have hTl : l[k]? = some T := by rw [hT]; exact List.getElem?_eq_getElem hlt
  have c0 := sone_at hc hTl
  have HTl := hU hTl
  have HTs := hU (HS.out T (List.mem_of_getElem? hTl))
  clear hc hT hTl
  go_wp2_with fail
  refine (specFrame_any T _ HTs.out).mono ?_
  rintro e w1 ⟨rfl, e1⟩
  have he1 := he.next e1
  have KO1 := hU (ownsRow_ext KO.out e1)
  clear c0 KO he e1
  cases hf : inR T.size 1 1000
  · have E := hU (framesOk_no1 HTl.out (show fits1 T = false from hf))
    go_wp2_with fail
    go_ret2
    exact ⟨by rw [framesOut_no E.out, E.out]; rfl, he1⟩
  rw [frameOut_fits (show fits1 T = true from hf)]
  have hfs := frameB_size (show fits1 T = true from hf)
  obtain ⟨t0, t1⟩ := fits1_le (show fits1 T = true from hf)
  have Hsn := hU (framesT_next HTl.out)
  by_cases hfit : (framesT (l.take k)).size + (frameB T).size ≤ 300000
  case neg =>
   have E := hU (framesOk_no2 HTl.out (by omega))
   have d3 : decide (300000 - ((framesT (l.take k)).size : Int) < ((frameB T).size : Int)) = true := by rw [decide_eq_true_eq]; omega
   go_wp2_with fail
   go_ret2
   exact ⟨by rw [framesOut_no E.out, E.out]; rfl, he1⟩
  have d3 : decide (300000 - ((framesT (l.take k)).size : Int) < ((frameB T).size : Int)) = false := by rw [decide_eq_false_iff_not]; omega
  have HN := hU (HI.out.next HTl.out (show fits1 T = true from hf) hfit)
  obtain ⟨cap, w2, hrun, e2, hcell⟩ := to_bytes (P := Tryz.prog) (frameB T) Tryz.underlying9 Tryz.underlying22 Tryz.underlying5 w1
  have he2 := he1.next e2
  have KO2 := hU (ownsRow_ext KO1.out e2)
  obtain ⟨F, hF⟩ : ∃ F, F = frameB T := ⟨_, rfl⟩
  obtain ⟨G, hG⟩ : ∃ G, G = framesT (l.take k) := ⟨_, rfl⟩
  have Hn : Hid (bvals (intsOf G) ++ bvals (intsOf F) = bvals (intsOf (framesT (l.take (k + 1)))) ∧ (framesT (l.take (k + 1))).size = G.size + F.size) := hU (by rw [hF, hG, ← bvals_append, ← intsOf_append, Hsn.out, ByteArray.size_append]; exact ⟨rfl, rfl⟩)
  rw [← hF] at hrun hcell hfs hfit d3
  have hFs : F.size ≤ 1006 := by omega
  rw [← hG] at KO2 hsm hfit d3
  rw [← hF]
  try rw [← hG]
  have hnews : Hid (∀ j u, (bvals (intsOf F))[j]? = some u → w2.cell? ((⟨w1.heap.size, 0, none⟩ : Addr).add j) = some u) := hU (by
   intro j u hu
   have hj : j < F.size := by
    have := (List.getElem?_eq_some_iff.1 hu).1
    rwa [bvals_len, intsOf_len] at this
   rw [intsOf_get hj] at hu
   rw [add_mk, Nat.zero_add, hcell j hj, hu])
  have hB2 : B ≤ w2.heap.size := by have := he2.size; have := HB.out; omega
  clear hF hG he1 KO1 e2 hcell Hsn hfs
  go_wp2_with (at_builtin; refine wpList_append_own _ rfl _ _ 22 rfl B 5 i0 (.int .u8 0) 1 1 Tryz.underlying22 hinf hz0 hz1 hz2 rfl (by decide) _ _ _ rfl KO2.out ⟨w1.heap.size, 0, none⟩ F.size cap (bvals (intsOf F)) rfl ?c0 ?c1 ?c2 ?c3 ?c4 ?c5 ?_)
  case c0 => rw [bvals_len, intsOf_len, Nat.mul_one]
  case c1 => exact hnews.out
  case c2 => exact bvals_one _
  case c3 => unfold maxLen; omega
  case c4 => omega
  case c5 => exact hB2
  intro v' w3 hown' hgrow _
  have he3 := Ext.ownGrown he2 KO2.out hgrow Hb
  rw [Hn.out.1] at hown'
  have KO' := hU (show OwnB B w3 v' (framesT (l.take (k + 1))).size (intsOf (framesT (l.take (k + 1)))) from by rw [Hn.out.2]; exact hown')
  clear hown' hgrow KO2 he2 hnews hrun
  go_wp2_with fail
  go_roundw
  case rel => exact ⟨k + 1, HN.out, by go_num, KO'.out, fun h => absurd h (by omega), he3⟩
  case measure => simp [intOf]; omega
end Go.Proofs.YthnpdoadmglipaaGreat
