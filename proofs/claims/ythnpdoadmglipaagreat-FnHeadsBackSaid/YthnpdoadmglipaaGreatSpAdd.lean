/-
  SpAdd: No condition.
-/
import Derived.Test.YthnpdoadmglipaaGreatSealP
import Derived.Test.YthnpdoadmglipaaGreatConvWrite
import Derived.Test.YthnpdoadmglipaaGreatRets
namespace Go.Proofs.YthnpdoadmglipaaGreat
set_option maxHeartbeats 2000000
set_option maxRecDepth 100000
set_option linter.unusedSimpArgs false
open Go.RowKit
set_option linter.unusedVariables false
def LaEnd (l : List EntryD) (d : EntryD) (w : World) (e : Ending) (w' : World) : Prop :=
 (adCode l d ≠ 0 ∧ e = .returned (.tuple #[.agg #[.slice none 0 0], .int .i64 0, .int .i64 (adCode l d : Int)]) ∧ Ext w w') ∨
  (adCode l d = 0 ∧ ∃ v, e = .returned (.tuple #[.agg #[v], .int .i64 (l.length : Int), .int .i64 0]) ∧ w'.ownsRow w.heap.size 130 5 v (l ++ [addNew l d]).length ((l ++ [addNew l d]).flatMap EntryD.cells) ∧ Ext w w')
theorem LaEnd.no {l : List EntryD} {d : EntryD} {w w' : World} {e : Ending} {k : Nat} (h : adCode l d = k) (h0 : k ≠ 0) (he : e = .returned (.tuple #[.agg #[.slice none 0 0], .int .i64 0, .int .i64 (k : Int)])) (hx : Ext w w') : LaEnd l d w e w' :=
 .inl ⟨by omega, by rw [h]; exact he, hx⟩
theorem entry0 (d : EntryD) : entryOk ⟨d.topic, 0, d.time, d.key, d.body⟩ = (nameOk d.topic && partsB d.time d.key d.body) := by
 have h : inR (0 : Int) 0 511 = true := by decide
 simp only [entryOk, h, Bool.and_true]
theorem l09Add_all (A : Option Addr) (c : Nat) (l : List EntryD) (d : EntryD) (w : World) (hr : SlF AnyB EntryD.cells 5 w A l c) (hl : l.length ≤ 512) (hd : d.Ok) :
 Calls Tryz.prog 100 #[.agg #[.slice A l.length c], .string d.topic, .int .i64 d.time, .string d.key, .string d.body] w (LaEnd l d w) := by
 by_cases hc : adCode l d = 0
 · obtain ⟨h1, h2, h3⟩ := ad_good hc
   have h := l09Add_yes A c l ⟨d.topic, 0, d.time, d.key, d.body⟩ w hr h3 ⟨hd.1, (show (Lit.int .i64 0).wf = true by decide), hd.2.2.1, hd.2.2.2.1, hd.2.2.2.2⟩ rfl h1 (by rw [entry0, h1, h2]; rfl)
   refine h.mono ?_
   rintro e w' ⟨v, rfl, ho, hx⟩
   exact .inr ⟨hc, v, rfl, ho, hx⟩
 have HC := hU hc
 have HD := hU hd
 obtain ⟨B0, B1, he⟩ := two_new w #[.slice A l.length c] #[.slice none 0 0] 26 26
 obtain ⟨g0, hg0⟩ : ∃ g0, g0 = w.heap.size := ⟨_, rfl⟩
 obtain ⟨g1, hg1⟩ : ∃ g1, g1 = w.heap.size + 1 := ⟨_, rfl⟩
 go_enter Tryz.func100, Tryz.ntmps100
 go_upto_region 1 with fail
 obtain ⟨w3, hw3⟩ : ∃ w3, w3 = (w.alloc (.cells #[.slice A l.length c] 26)).alloc (.cells #[.slice none 0 0] 26) := ⟨_, rfl⟩
 rw [← hw3] at B0 B1 he
 rw [← hw3]
 rw [← hg1] at B1
 rw [← hg0] at B0
 rw [← hg1, ← hg0]
 have hw : w.heap.size ≤ g1 := by omega
 clear hw3 hg0 hg1 hr hc
 go_wp2_with fail
 refine (specNameOk_any d.topic _ HD.out.1).mono ?_
 rintro e w4 ⟨rfl, rfl⟩
 cases p1 : nameOk d.topic
 · have E := hU (ad2 (l := l) p1)
   obtain ⟨r1, f1⟩ := B1.rules
   have Z := hU (show Blk (w3.setCell ⟨g1, 0, none⟩ (.slice none 0 0)) g1 26 #[.slice none 0 0] from B1.put 0 [.slice none 0 0] _ (by simp) (by rfl))
   have X := hU (show Ext w (w3.setCell ⟨g1, 0, none⟩ (.slice none 0 0)) from Below.setCell he (p := ⟨g1, 0, none⟩) hw _)
   clear B0 B1 he
   go_wp2_with fail
   exact ret_ctt (s0 := 10) (s1 := 11) (s2 := 12) (t0 := 26) rfl rfl Z.out Tryz.underlying26 rfl (by kernel_rfl) rfl (LaEnd.no E.out (by decide) rfl X.out)
 go_wp2_with fail
 refine (specEntryOk_any ⟨d.topic, 0, d.time, d.key, d.body⟩ _ ⟨HD.out.1, (show (Lit.int .i64 0).wf = true by decide), HD.out.2.2.1, HD.out.2.2.2.1, HD.out.2.2.2.2⟩).mono ?_
 rintro e w4 ⟨rfl, h1⟩
 replace he := he.next h1; replace B0 := B0.ext h1; replace B1 := B1.ext h1
 clear h1
 rw [entry0, p1, Bool.true_and]
 cases p2 : partsB d.time d.key d.body
 · have E := hU (ad3 (l := l) p1 p2)
   obtain ⟨r1, f1⟩ := B1.rules
   have Z := hU (show Blk (w4.setCell ⟨g1, 0, none⟩ (.slice none 0 0)) g1 26 #[.slice none 0 0] from B1.put 0 [.slice none 0 0] _ (by simp) (by rfl))
   have X := hU (show Ext w (w4.setCell ⟨g1, 0, none⟩ (.slice none 0 0)) from Below.setCell he (p := ⟨g1, 0, none⟩) hw _)
   clear B0 B1 he
   go_wp2_with fail
   exact ret_ctt (s0 := 10) (s1 := 11) (s2 := 12) (t0 := 26) rfl rfl Z.out Tryz.underlying26 rfl (by kernel_rfl) rfl (LaEnd.no E.out (by decide) rfl X.out)
 by_cases p3 : 512 ≤ l.length
 · have E := hU (ad4 p1 p2 p3)
   have g0_ : ((l.length : Int) == 512) = true := beq_iff_eq.2 (by omega)
   obtain ⟨r0, f0⟩ := B0.rules
   obtain ⟨r1, f1⟩ := B1.rules
   have Z := hU (show Blk (w4.setCell ⟨g1, 0, none⟩ (.slice none 0 0)) g1 26 #[.slice none 0 0] from B1.put 0 [.slice none 0 0] _ (by simp) (by rfl))
   have X := hU (show Ext w (w4.setCell ⟨g1, 0, none⟩ (.slice none 0 0)) from Below.setCell he (p := ⟨g1, 0, none⟩) hw _)
   clear B0 B1 he
   go_wp2_with fail
   exact ret_ctt (s0 := 10) (s1 := 11) (s2 := 12) (t0 := 26) rfl rfl Z.out Tryz.underlying26 rfl (by kernel_rfl) rfl (LaEnd.no E.out (by decide) rfl X.out)
 exact absurd (ad0 p1 p2 p3) HC.out
end Go.Proofs.YthnpdoadmglipaaGreat
