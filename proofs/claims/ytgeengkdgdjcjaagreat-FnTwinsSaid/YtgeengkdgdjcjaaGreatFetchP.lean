/-
  TwinP; Broker1; UnfrLaw; FramesLaw; FramesWk; HeadRead; ReadHead; TextsP; FetchP: No condition.
-/
import Derived.Test.YtgeengkdgdjcjaaGreatTwoP
import Derived.Test.YtgeengkdgdjcjaaGreatExtImpl
import Derived.Test.YtgeengkdgdjcjaaGreatTwin
import Derived.Test.YtgeengkdgdjcjaaGreatBroker0
import Derived.Test.YtgeengkdgdjcjaaGreatMapStr
import Derived.Test.YtgeengkdgdjcjaaGreatNString
import Derived.Test.YtgeengkdgdjcjaaGreatRets
import Derived.Test.YtgeengkdgdjcjaaGreatAppNew
import Derived.Test.YtgeengkdgdjcjaaGreatTexts
import Derived.Test.YtgeengkdgdjcjaaGreatPre
namespace Go.Proofs.YtgeengkdgdjcjaaGreat
set_option linter.unusedSimpArgs false
open Go.RowKit
set_option linter.unusedVariables false
theorem log_right {l : List EntryD} (h : LogRight l) (hl : l.length ≤ 512) : logOk l = true := by
 rw [logOk, decide_eq_true hl, Bool.true_and, allTo_iff]
 intro k hk
 obtain ⟨h1, h2, h3⟩ := h k l[k] (List.getElem?_eq_getElem hk)
 rw [logAt, List.getElem?_eq_getElem hk]
 simp only [h1, Bool.true_and, beq_iff_eq]
 exact h3.symm
def twH (n : Int) (L : List EntryD) : HeadD := ⟨1, L.length, treeR n (leavesH n L), 0, emptyR n⟩
def twI (n : Int) (L : List EntryD) (k : Nat) (E : EntryD) : ItemD := ⟨2, ⟨0, 0, ⟨#[]⟩, 0, ⟨#[]⟩⟩, twH n L, k, E, ⟨⟨#[]⟩, ⟨#[]⟩, 0⟩, inclN n 512 (leavesH n L) k, []⟩
theorem leaves_size {n : Int} (hn : inR n 1 32 = true) {L : List EntryD} (h : LogRight L) : ∀ s ∈ leavesH n L, s.size = n.toNat := by
 intro s hs
 obtain ⟨d, hd, rfl⟩ := List.mem_map.1 hs
 obtain ⟨k, hk⟩ := List.getElem?_of_mem hd
 exact leafH_size hn (h k d hk).1
theorem twH_ok {n : Int} (hn : inR n 1 32 = true) {L : List EntryD} (h : LogRight L) (hl : L.length ≤ 12) (h0 : 0 < L.length) : headOk n (twH n L) = true := by
 have hn2 := inR_true hn
 have s1 : (treeR n (leavesH n L)).size = n.toNat := treeR_size hn _ _ (Nat.le_refl _) (leaves_size hn h)
 have s2 : (emptyR n).size = n.toNat := digest_size (by rw [emptyOk]; exact hn)
 have e1 : inR (twH n L).number 0 399 = true := by simp [twH, inR]
 have e2 : rootB n (twH n L).size (twH n L).root = true := by
  have a : inR (L.length : Int) 0 512 = true := by simp [inR]; omega
  have b : (((treeR n (leavesH n L)).size : Int) == n) = true := by rw [s1, beq_iff_eq]; omega
  have c : decide ((0 : Int) < (L.length : Int)) = true := decide_eq_true (by omega)
  show (inR (L.length : Int) 0 512 && (((treeR n (leavesH n L)).size : Int) == n) && (decide ((0 : Int) < (L.length : Int)) || _)) = true
  rw [a, b, c]; rfl
 have e3 : rootB n (twH n L).taken (twH n L).takenRoot = true := by
  have b : (((emptyR n).size : Int) == n) = true := by rw [s2, beq_iff_eq]; omega
  show (inR 0 0 512 && (((emptyR n).size : Int) == n) && (decide ((0 : Int) < 0) || ((emptyR n).toList == (emptyR n).toList))) = true
  rw [b, beq_self_eq_true]; rfl
 rw [headOk, hn, e1, e2, e3]; rfl
theorem twI_ok {n : Int} (hn : inR n 1 32 = true) {L : List EntryD} (h : LogRight L) (hl : L.length ≤ 12) {k : Nat} {E : EntryD} (hk : L[k]? = some E) : itemOk n (twI n L k E) = true := by
 have lk := (List.getElem?_eq_some_iff.1 hk).1
 obtain ⟨h1, _, _⟩ := h k E hk
 have hg := incl_good hn (l := leavesH n L) (k := k) (x := leafH n E) (by rw [leavesH, List.length_map]; omega) (leaves_size hn h) (by rw [leavesH, List.getElem?_map, hk]; rfl)
 have e1 : leafHOk n E = true := by
  have := leafText_size E
  rw [leafHOk, h1, digestOk, hn]; simp [inR]; omega
 rw [leavesH, List.length_map] at hg
 rw [item_2 (twH_ok hn h hl (by omega)) rfl, leafB]
 show (leafHOk n E && checkIn n (treeR n (leavesH n L)) (L.length : Int) (k : Int) (leafH n E) (inclN n 512 (leavesH n L) k)) = true
 rw [e1]; exact hg
theorem twins_meet {n : Int} (hn : inR n 1 32 = true) {L : List EntryD} {k : Nat} {E F : EntryD} (h1 : itemOk n (twI n L k E) = true) (h2 : itemOk n (twI n L k F) = true) (hne : E ≠ F) : exOk n [twI n L k E, twI n L k F] = true ∧ brokenB n (exA n [twI n L k E, twI n L k F]) (exB n [twI n L k E, twI n L k F]) = true := by
 have p1 := presOf_2 h1 rfl
 have p2 := presOf_2 h2 rfl
 have g1 : headOk n (twI n L k E).head = true := by rw [itemOk, Bool.and_eq_true] at h1; exact h1.1
 have g2 : headOk n (twI n L k F).head = true := by rw [itemOk, Bool.and_eq_true] at h2; exact h2.1
 rw [item_2 g1 rfl, leafB, Bool.and_eq_true] at h1
 rw [item_2 g2 rfl, leafB, Bool.and_eq_true] at h2
 obtain ⟨a1, a2⟩ := h1
 obtain ⟨b1, b2⟩ := h2
 rw [leafHOk, Bool.and_eq_true] at a1 b1
 have a1 : entryOk E = true ∧ digestOk n 0 (leafText E) = true := a1
 have b1 : entryOk F = true ∧ digestOk n 0 (leafText F) = true := b1
 have eE : leafH n E = digest n 0 (leafText E) := (leafH_yes a1.1).1
 have eF : leafH n F = digest n 0 (leafText F) := (leafH_yes b1.1).1
 have a2 : checkIn n (treeR n (leavesH n L)) (L.length : Int) (k : Int) (digest n 0 (leafText E)) (inclN n 512 (leavesH n L) k) = true := eE ▸ a2
 have b2 : checkIn n (treeR n (leavesH n L)) (L.length : Int) (k : Int) (digest n 0 (leafText F)) (inclN n 512 (leavesH n L) k) = true := eF ▸ b2
 have ex : exL n [twI n L k E, twI n L k F] = presOf n (twI n L k E) ++ presOf n (twI n L k F) := by
  show ([twI n L k E, twI n L k F].take 2).flatMap (presOf n) = _
  simp
 have hlen : (exL n [twI n L k E, twI n L k F]).length ≤ 6000 := by
  have := presUp_len n [twI n L k E, twI n L k F] 2
  exact Nat.le_trans this (by decide)
 have ok : meetOk n (exL n [twI n L k E, twI n L k F]) = true := by
  rw [ex, p1, p2]
  rw [ex, p1, p2] at hlen
  by_cases he : digest n 0 (leafText E) = digest n 0 (leafText F)
  · have ht : leafText E ≠ leafText F := fun e => hne (leaf_one a1.1 b1.1 e)
    refine meet_some (a := ⟨0, leafText E⟩) (b := ⟨0, leafText F⟩) hn hlen (List.mem_append_left _ List.mem_cons_self) (List.mem_append_right _ List.mem_cons_self) ?_
    have e2 : PreD.eqb ⟨0, leafText E⟩ ⟨0, leafText F⟩ = false := by
     cases hb : PreD.eqb ⟨0, leafText E⟩ ⟨0, leafText F⟩
     · rfl
     · have := (PreD.eqb_iff _ _).1 hb
       exact absurd (congrArg PreD.text this) ht
    show (digestOk n 0 (leafText F) && ((digest n 0 (leafText E)).toList == (digest n 0 (leafText F)).toList) && !(PreD.eqb ⟨0, leafText E⟩ ⟨0, leafText F⟩)) = true
    rw [b1.2, he, e2, beq_self_eq_true]; rfl
  · obtain ⟨x, y, hx, hy, hc⟩ := twain_clash hn (two_checked a2 b2 (fun e => he e.1))
    refine meet_some hn hlen (a := x) (b := y) (List.mem_append_left _ (List.mem_cons_of_mem _ ?_)) (List.mem_append_right _ (List.mem_cons_of_mem _ ?_)) hc
    · exact hx
    · exact hy
 have o : exOk n [twI n L k E, twI n L k F] = true := ok
 exact ⟨o, meet_found ok⟩
section
variable {α : Type} {nd : α → α → α} {e : α} {P : α → Prop}
end







end Go.Proofs.YtgeengkdgdjcjaaGreat
