/-
  Logs2: No condition.
-/
import Derived.Test.YtgeengkdgdjcjaaGreatLogs
namespace Go.Proofs.YtgeengkdgdjcjaaGreat
set_option maxHeartbeats 400000
set_option maxRecDepth 100000
set_option linter.unusedSimpArgs false
open Go.RowKit
set_option linter.unusedVariables false
structure DrawS (B g : Nat) (A : Option Addr) (c : Nat) (l : List Int) (w w' : World) : Prop where
 cur : CurAt w' B g A c l
 ext : ExtBut g w w'
theorem DrawS.next {B g : Nat} {A : Option Addr} {c : Nat} {l : List Int} {w w1 w2 : World} (h : DrawS B g A c l w w1) (hc : CurAt w2 B g A c l) (hx : ExtBut g w1 w2) : DrawS B g A c l w w2 := ⟨hc, h.ext.next hx⟩
theorem topicsL_ok : ∀ t ∈ topics, nameOk t = true := by decide +kernel
def LogRight (l : List EntryD) : Prop := ∀ (i : Nat) (d : EntryD), l[i]? = some d → entryOk d = true ∧ d.Ok ∧ d.index = (cntT (l.take i) d.topic : Int)
theorem LogRight.nil : LogRight [] := fun i d h => by simp at h
theorem LogRight.snoc {l : List EntryD} (h : LogRight l) {d : EntryD} (hd : entryOk d = true) (hk : d.Ok) (hl : l.length < 512) : LogRight (l ++ [addNew l d]) := by
 intro i e he
 rcases Nat.lt_or_ge i l.length with hi | hi
 · rw [List.getElem?_append_left hi] at he
   obtain ⟨h1, h2, h3⟩ := h i e he
   refine ⟨h1, h2, ?_⟩
   rw [List.take_append_of_le_length (by omega)]
   exact h3
 · rw [List.getElem?_append_right hi] at he
   have hi0 : i - l.length = 0 := by
    have := (List.getElem?_eq_some_iff.1 he).1
    simp at this; omega
   have hil : i = l.length := by omega
   subst hil
   rw [hi0] at he
   obtain rfl : addNew l d = e := by simpa using he
   have hc := cntT_le l d.topic
   simp only [entryOk, Bool.and_eq_true] at hd
   obtain ⟨⟨h1, h2⟩, h3⟩ := hd
   refine ⟨?_, ?_, ?_⟩
   · simp only [entryOk, addNew, Bool.and_eq_true]
     exact ⟨⟨h1, by simp [inR]; omega⟩, h3⟩
   · obtain ⟨k1, k2, k3, k4, k5⟩ := hk
     refine ⟨k1, ?_, k3, k4, k5⟩
     show (Lit.int .i64 (cntT l d.topic : Int)).wf = true
     simp [Lit.wf, IntKind.min, IntKind.max, IntKind.signed, IntKind.bits]; omega
   · rw [List.take_append_of_le_length (Nat.le_refl _), List.take_length]
     rfl
def drawnE (d : EntryD) : Prop := d.topic ∈ topics ∧ 0 ≤ d.time ∧ d.time < 1000 ∧ d.key.size ≤ 1 ∧ d.body.size ≤ 3
theorem drawnE_ok {d : EntryD} (h : drawnE d) (hi : d.index = 0) : entryOk d = true ∧ d.Ok ∧ nameOk d.topic = true := by
 obtain ⟨h1, h2, h3, h4, h5⟩ := h
 have k1 := topicsL_ok _ h1
 have z1 := nameOk_size k1
 refine ⟨?_, ⟨?_, ?_, ?_, ?_, ?_⟩, k1⟩
 · simp [entryOk, k1, inR, partsB, hi]; omega
 · unfold maxLen; omega
 · rw [hi]; rfl
 · simp [Lit.wf, IntKind.min, IntKind.max, IntKind.signed, IntKind.bits]; omega
 · unfold maxLen; omega
 · unfold maxLen; omega
theorem l09Log_any (B g : Nat) (A : Option Addr) (c : Nat) (l : List Int) (n : Nat) (w : World) (hn : n ≤ 512) (hC : CurAt w B g A c l) :
 Calls Tryz.prog 74 #[.pointer (some ⟨g, 0, none⟩), .int .i64 (n : Int)] w fun e w' => ∃ (v : Value) (L : List EntryD), e = .returned (.agg #[v]) ∧ L.length = n ∧ LogRight L ∧ (∀ d ∈ L, drawnE d) ∧ OwnF EntryD.cells 5 56 w w' v L ∧ CurAt w' B g A c l ∧ ExtBut g w w' := by
 have hgw := hC.lt
 have C0 := hU ((hC.alloc (.cells #[.slice none 0 0] 26)).alloc (.cells #[.slice none 0 0] 26))
 have K4 := hU ((Blk.new w 26 #[.slice none 0 0]).alloc (.cells #[.slice none 0 0] 26))
 have k5 := Blk.new (w.alloc (.cells #[.slice none 0 0] 26)) 26 #[.slice none 0 0]
 rw [World.size_alloc] at k5
 have K5 := hU k5; clear k5 hC
 have HE := hU (((ExtBut.refl g w).alloc (.cells #[.slice none 0 0] 26)).alloc (.cells #[.slice none 0 0] 26))
 go_enter Tryz.func74, Tryz.ntmps74
 go_wp2_with fail
 obtain ⟨q, hq⟩ : ∃ q, q = w.heap.size := ⟨_, rfl⟩
 rw [← hq] at K4 K5 hgw
 rw [← hq]
 have hq0 : w.heap.size ≤ q := by omega
 have HQ := hU hq
 clear hq
 generalize (w.alloc (.cells #[.slice none 0 0] 26)).alloc (.cells #[.slice none 0 0] 26) = w0 at *
 go_loopw [6] (fun i wr => ∃ (k : Nat) (v : Value) (L : List EntryD), k ≤ n ∧ i = .int .i64 (k : Int) ∧ L.length = k ∧ LogRight L ∧ (∀ d ∈ L, drawnE d) ∧ wr.ownsRow (q + 2) 56 5 v L.length (L.flatMap EntryD.cells) ∧ Blk wr q 26 #[.slice none 0 0] ∧ Blk wr (q + 1) 26 #[v] ∧ CurAt wr B g A c l ∧ ExtBut g w wr) (fun i _ => n - (intOf i).toNat)
 case atStart => exact ⟨0, .slice none 0 0, [], Nat.zero_le _, rfl, rfl, LogRight.nil, by simp, World.ownsRow_nil _ _ _ _, K4.out, K5.out, C0.out, HE.out⟩
 case round =>
  clear K4 K5 C0 HE
  obtain ⟨k, v, L, hk, rfl, hlk, hLr, hLd, hown, k4, k5, hcur, he⟩ := hrel
  subst hlk
  obtain ⟨V, cv, rfl, hnc⟩ := ownsRow_form hown
  have KO := hU hown; clear hown
  have HL := hU hLr; clear hLr
  have HD := hU hLd; clear hLd
  by_cases hlt : L.length < n
  case neg =>
   have d1 : decide ((L.length : Int) < (n : Int)) = false := by rw [decide_eq_false_iff_not]; omega
   obtain ⟨c5, f5⟩ := k5.rules
   obtain ⟨c4, f4⟩ := k4.rules
   have B4 := hU (k4.set_ 0 (.slice V L.length cv))
   have CC := hU (hcur.far (p := q) (vs := [.slice V L.length cv]) (o := 0) (Nat.le_trans hcur.1 (by omega)) (by omega))
   have NE := hU (grow_setOwn (p := q) [.slice V L.length cv] 0 he (by omega))
   have NO := hU (ownsRow_far KO.out (grow_setCells q [.slice V L.length cv] 0 wr wr (World.grownBy.refl _ _)) (show q < q + 2 by omega))
   clear k4 k5 hcur he KO
   go_wp2_with fail
   refine ret_row rfl rfl B4.out Tryz.underlying26 rfl (by kernel_rfl) rfl ⟨_, L, rfl, by omega, HL.out, HD.out, ?_, CC.out, NE.out⟩
   exact ownsRow_base NO.out (by omega)
  have d1 : decide ((L.length : Int) < (n : Int)) = true := by rw [decide_eq_true_eq]; omega
  have d2 : decide ((L.length : Int) < 512) = true := by rw [decide_eq_true_eq]; omega
  go_wp2_with fail
  have hqg : q + 1 ≠ g := by omega
  refine wp_region_any (by kernel_rfl) ?_
  change wpAny _ _ _ _ _ _ _ (World.drew _)
  refine takeA (i := 1) (oi := _) (v := .pointer (some ⟨g, 0, none⟩)) (some 19) rfl rfl (by kernel_rfl) (by kernel_rfl) (by kernel_rfl) (fun _ a b _ e h => by cases a; cases b; cases e; exact h) (Or.inl ⟨by rfl, ?y1⟩) ?r1
  case y1 => intro w'; go_simp; try with_reducible rfl
  (try simp only [fillA, Act.put, List.setIfInBounds_toArray, List.set_cons_zero, List.set_cons_succ])
  refine takeA (i := 3) (oi := _) (v := .pointer (some ⟨g, 0, none⟩)) (some 21) rfl rfl (by kernel_rfl) (by kernel_rfl) (by kernel_rfl) (fun _ a b _ e h => by cases a; cases b; cases e; exact h) (Or.inl ⟨by rfl, ?y3⟩) ?r3
  case y3 => intro w'; go_simp; try with_reducible rfl
  (try simp only [fillA, Act.put, List.setIfInBounds_toArray, List.set_cons_zero, List.set_cons_succ])
  refine takeA (i := 5) (oi := _) (v := .pointer (some ⟨g, 0, none⟩)) (some 23) rfl rfl (by kernel_rfl) (by kernel_rfl) (by kernel_rfl) (fun _ a b _ e h => by cases a; cases b; cases e; exact h) (Or.inl ⟨by rfl, ?y5⟩) ?r5
  case y5 => intro w'; go_simp; try with_reducible rfl
  (try simp only [fillA, Act.put, List.setIfInBounds_toArray, List.set_cons_zero, List.set_cons_succ])
  refine takeA (i := 6) (oi := _) (v := .pointer (some ⟨g, 0, none⟩)) (some 24) rfl rfl (by kernel_rfl) (by kernel_rfl) (by kernel_rfl) (fun _ a b _ e h => by cases a; cases b; cases e; exact h) (Or.inl ⟨by rfl, ?y6⟩) ?r6
  case y6 => intro w'; go_simp; try with_reducible rfl
  (try simp only [fillA, Act.put, List.setIfInBounds_toArray, List.set_cons_zero, List.set_cons_succ])
  refine takeA (i := 9) (oi := _) (v := .pointer (some ⟨g, 0, none⟩)) (some 27) rfl rfl (by kernel_rfl) (by kernel_rfl) (by kernel_rfl) (fun _ a b _ e h => by cases a; cases b; cases e; exact h) (Or.inl ⟨by rfl, ?y9⟩) ?r9
  case y9 => intro w'; go_simp; try with_reducible rfl
  (try simp only [fillA, Act.put, List.setIfInBounds_toArray, List.set_cons_zero, List.set_cons_succ])
  refine takeA (i := 10) (oi := _) (v := .pointer (some ⟨g, 0, none⟩)) (some 28) rfl rfl (by kernel_rfl) (by kernel_rfl) (by kernel_rfl) (fun _ a b _ e h => by cases a; cases b; cases e; exact h) (Or.inl ⟨by rfl, ?y10⟩) ?r10
  case y10 => intro w'; go_simp; try with_reducible rfl
  (try simp only [fillA, Act.put, List.setIfInBounds_toArray, List.set_cons_zero, List.set_cons_succ])
  refine wpAny_bunch [(0, some 18), (2, some 20), (4, some 22), (7, some 25), (8, some 26), (11, some 29), (12, some 30)] (fun i v w' => match i with
   | 0 => v = .agg #[.slice V L.length cv]
   | 2 => ∃ t ∈ topics, v = .string t
   | 4 => ∃ x : Int, (0 ≤ x ∧ x < 1000) ∧ v = .int .i64 x
   | 7 => ∃ x : Nat, x < 2 ∧ v = .int .i64 (x : Int)
   | 8 => ∃ s : ByteArray, s.size ≤ 1 ∧ v = .string s
   | 11 => ∃ x : Nat, x < 4 ∧ v = .int .i64 (x : Int)
   | 12 => ∃ s : ByteArray, s.size ≤ 3 ∧ v = .string s
   | _ => True) (fun w' => DrawS B g A c l wr w') (fun w1 w2 => ExtBut g w1 w2) (n := 6) (by kernel_rfl) (by rfl) (fun _ a b _ e h => by cases a; cases b; cases e; exact h) (fun _ _ _ _ _ h => h) ⟨show CurAt wr.drew B g A c l from hcur, (ExtBut.refl g wr).drewN 1⟩ ?hst ?hend
  case hst =>
   refine BunchAll.cons [] (o := _) rfl rfl rfl (by kernel_rfl) (fun vals u hv hS K' hK => ?_) ?_
   · have k5u := k5.extBut hS.ext hqg
     obtain ⟨c5, f5⟩ := k5u.rules
     clear hv
     refine ⟨?_⟩
     (try simp only [fillA, Act.put, List.setIfInBounds_toArray, List.set_cons_zero, List.set_cons_succ] at hK ⊢)
     go_simp
     exact hK.out _ _ ⟨.agg #[.slice V L.length cv], rfl, rfl⟩ hS (ExtBut.refl _ _)
   refine BunchAll.cons [] (o := _) rfl rfl rfl (by kernel_rfl) (fun vals u hv hS K' hK => ?_) ?_
   · clear hv
     refine ⟨?_⟩
     (try simp only [fillA, Act.put, List.setIfInBounds_toArray, List.set_cons_zero, List.set_cons_succ] at hK ⊢)
     go_simp
     refine (l09Topic_any B g A c l _ hS.cur).mono ?_
     rintro e u2 ⟨t, ht, rfl, h1, h2⟩
     (try go_wp2_with fail)
     exact hK.out _ _ ⟨.string t, rfl, t, ht, rfl⟩ (hS.next h1 h2) h2
   refine BunchAll.cons [] (o := _) rfl rfl rfl (by kernel_rfl) (fun vals u hv hS K' hK => ?_) ?_
   · clear hv
     refine ⟨?_⟩
     (try simp only [fillA, Act.put, List.setIfInBounds_toArray, List.set_cons_zero, List.set_cons_succ] at hK ⊢)
     go_simp
     refine (l01Below_any B g A c l 1000 _ (by decide) (by decide) hS.cur).mono ?_
     rintro e u2 ⟨x, hx, rfl, h1, h2⟩
     (try go_wp2_with fail)
     exact hK.out _ _ ⟨.int .i64 x, rfl, x, hx, rfl⟩ (hS.next h1 h2) h2
   refine BunchAll.cons [] (o := _) rfl rfl rfl (by kernel_rfl) (fun vals u hv hS K' hK => ?_) ?_
   · clear hv
     refine ⟨?_⟩
     (try simp only [fillA, Act.put, List.setIfInBounds_toArray, List.set_cons_zero, List.set_cons_succ] at hK ⊢)
     go_simp
     refine (l01Below_any B g A c l 2 _ (by decide) (by decide) hS.cur).mono ?_
     rintro e u2 ⟨x, hx, rfl, h1, h2⟩
     (try go_wp2_with fail)
     exact hK.out _ _ ⟨.int .i64 x, rfl, x.toNat, by omega, by rw [Int.toNat_of_nonneg hx.1]⟩ (hS.next h1 h2) h2
   refine BunchAll.cons [7] (o := _) rfl rfl rfl (by kernel_rfl) (fun vals u hv hS K' hK => ?_) ?_
   · obtain ⟨⟨x, hx, hv⟩, _⟩ := hv
     refine ⟨?_⟩
     (try simp only [fillA, Act.put, List.setIfInBounds_toArray, List.set_cons_zero, List.set_cons_succ] at hK ⊢)
     rw [hv] at hK ⊢
     clear hv
     go_simp
     refine (l01Text_any B g A c l x _ (by omega) hS.cur).mono ?_
     rintro e u2 ⟨y, hy, rfl, h1, h2⟩
     (try go_wp2_with fail)
     exact hK.out _ _ ⟨.string y, rfl, y, by omega, rfl⟩ (hS.next h1 h2) h2
   refine BunchAll.cons [] (o := _) rfl rfl rfl (by kernel_rfl) (fun vals u hv hS K' hK => ?_) ?_
   · clear hv
     refine ⟨?_⟩
     (try simp only [fillA, Act.put, List.setIfInBounds_toArray, List.set_cons_zero, List.set_cons_succ] at hK ⊢)
     go_simp
     refine (l01Below_any B g A c l 4 _ (by decide) (by decide) hS.cur).mono ?_
     rintro e u2 ⟨x, hx, rfl, h1, h2⟩
     (try go_wp2_with fail)
     exact hK.out _ _ ⟨.int .i64 x, rfl, x.toNat, by omega, by rw [Int.toNat_of_nonneg hx.1]⟩ (hS.next h1 h2) h2
   refine BunchAll.cons [11] (o := _) rfl rfl rfl (by kernel_rfl) (fun vals u hv hS K' hK => ?_) ?_
   · obtain ⟨⟨x, hx, hv⟩, _⟩ := hv
     refine ⟨?_⟩
     (try simp only [fillA, Act.put, List.setIfInBounds_toArray, List.set_cons_zero, List.set_cons_succ] at hK ⊢)
     rw [hv] at hK ⊢
     clear hv
     go_simp
     refine (l01Text_any B g A c l x _ (by omega) hS.cur).mono ?_
     rintro e u2 ⟨y, hy, rfl, h1, h2⟩
     (try go_wp2_with fail)
     exact hK.out _ _ ⟨.string y, rfl, y, by omega, rfl⟩ (hS.next h1 h2) h2
   exact BunchAll.nil
  intro vals w4 hv hS
  obtain ⟨v0, ⟨t, ht, v2⟩, ⟨x, hx, v4⟩, ⟨x7, _, v7⟩, ⟨sk, hsk, v8⟩, ⟨x11, _, v11⟩, ⟨sb, hsb, v12⟩, _⟩ := hv
  have hS4 := hU hS; clear hS
  have K5 := hU (k5.extBut hS4.out.ext hqg); have K4 := hU (k4.extBut hS4.out.ext (by omega)); clear k4 k5 hcur
  have KO4 := hU (ownsRow_but KO.out hS4.out.ext (show g < q + 2 by omega)); clear KO
  replace he := he.next hS4.out.ext
  have hs4 : q + 2 ≤ w4.heap.size := K5.out.lt
  obtain ⟨D, hD⟩ : ∃ D : EntryD, D = ⟨t, 0, x, sk, sb⟩ := ⟨_, rfl⟩
  have HDr := hU (show drawnE D by rw [hD]; exact ⟨ht, hx.1, hx.2, hsk, hsb⟩)
  have HDo := hU (drawnE_ok HDr.out (by rw [hD]))
  obtain ⟨V', cv', hV, sf⟩ := slf_own KO4.out
  obtain ⟨rfl, rfl⟩ : V = V' ∧ cv = cv' := by simpa using hV
  have LC := hU (fun w5 (hw : w4 = w5) => l09Add_yes V cv L D w4 sf.any (by omega) HDo.out.2.1 (by rw [hD]) HDo.out.2.2 HDo.out.1)
  clear hV sf
  refine oneA 13 (oi := _) (some 31) (by kernel_rfl) rfl rfl rfl (fun K' hK => ?_)
  refine ⟨?_⟩
  (try simp only [fillA, Act.put, List.setIfInBounds_toArray, List.set_cons_zero, List.set_cons_succ] at hK ⊢)
  rw [v0, v2, v4, v7, v8, v11, v12] at hK ⊢
  clear v0 v2 v4 v7 v8 v11 v12
  go_simp
  have hlc := LC.out w4 rfl
  rw [hD] at hlc
  refine hlc.mono ?_
  clear hlc LC
  rintro e w5 ⟨v5, rfl, o5, h5⟩
  rw [← hD] at o5
  (try go_wp2_with fail)
  have O5 := hU (ownsRow_base o5 hs4)
  obtain ⟨A5, c5, rfl, _⟩ := ownsRow_form O5.out
  refine hK.out _ _ ⟨.tuple #[.agg #[.slice A5 (L ++ [addNew L D]).length c5], .int .i64 (L.length : Int), .int .i64 0], rfl⟩ ?_
  clear hK K'
  (try simp only [fillA, Act.put, List.setIfInBounds_toArray, List.set_cons_zero, List.set_cons_succ] at hK ⊢)
  refine takeA (i := 14) (oi := _) (v := .tuple #[.agg #[.slice A5 (L ++ [addNew L D]).length c5], .int .i64 (L.length : Int), .int .i64 0]) (some 17) rfl rfl (by kernel_rfl) (by kernel_rfl) (by kernel_rfl) (fun _ a b _ e h => by cases a; cases b; cases e; exact h) (Or.inl ⟨by rfl, ?y14⟩) ?r14
  case y14 => intro w'; go_simp; try with_reducible rfl
  (try simp only [fillA, Act.put, List.setIfInBounds_toArray, List.set_cons_zero, List.set_cons_succ])
  refine takeA (i := 15) (oi := _) (v := .agg #[.slice A5 (L ++ [addNew L D]).length c5]) (some 32) rfl rfl (by kernel_rfl) (by kernel_rfl) (by kernel_rfl) (fun _ a b _ e h => by cases a; cases b; cases e; exact h) (Or.inl ⟨by rfl, ?y15⟩) ?r15
  case y15 => intro w'; go_simp; try with_reducible rfl
  (try simp only [fillA, Act.put, List.setIfInBounds_toArray, List.set_cons_zero, List.set_cons_succ])
  refine takeA (i := 16) (oi := _) (v := .int .i64 (L.length : Int)) (some 33) rfl rfl (by kernel_rfl) (by kernel_rfl) (by kernel_rfl) (fun _ a b _ e h => by cases a; cases b; cases e; exact h) (Or.inl ⟨by rfl, ?y16⟩) ?r16
  case y16 => intro w'; go_simp; try with_reducible rfl
  (try simp only [fillA, Act.put, List.setIfInBounds_toArray, List.set_cons_zero, List.set_cons_succ])
  refine takeA (i := 17) (oi := _) (v := .int .i64 0) (some 34) rfl rfl (by kernel_rfl) (by kernel_rfl) (by kernel_rfl) (fun _ a b _ e h => by cases a; cases b; cases e; exact h) (Or.inl ⟨by rfl, ?y17⟩) ?r17
  case y17 => intro w'; go_simp; try with_reducible rfl
  (try simp only [fillA, Act.put, List.setIfInBounds_toArray, List.set_cons_zero, List.set_cons_succ])
  replace K5 := hU (K5.out.ext h5); replace K4 := hU (K4.out.ext h5)
  have hC5 := hU (hS4.out.cur.ext h5)
  replace he := hU (he.next (ExtBut.of_ext h5))
  have hs5 : q + 2 ≤ w5.heap.size := K5.out.lt
  clear hS4 h5
  refine oneA 18 (oi := _) none (by kernel_rfl) rfl rfl rfl (fun K' hK => ?_)
  have th := K5.out.there 0 1 (by simp)
  refine ⟨?_⟩
  rw [if_pos (by rfl)]
  refine wp_store_here 26 _ _ (by rfl) (by rfl) (q + 1) 0 [.slice A5 (L ++ [addNew L D]).length c5] (by rfl) (by rfl) th (by kernel_rfl) (by simp; rfl) ?_
  refine hK.out _ _ ⟨undef, rfl⟩ ?_
  clear hK K' th
  have N5 := hU (K5.out.put 0 [.slice A5 (L ++ [addNew L D]).length c5] #[.slice A5 (L ++ [addNew L D]).length c5] (by simp) rfl)
  have N4 := hU (K4.out.farCells (g' := q + 1) (by omega) [.slice A5 (L ++ [addNew L D]).length c5] 0)
  have NC := hU (hC5.out.far (p := q + 1) (Nat.le_trans hC5.out.1 (by omega)) (by omega) [.slice A5 (L ++ [addNew L D]).length c5] 0)
  have NE := hU (grow_setOwn (p := q + 1) [.slice A5 (L ++ [addNew L D]).length c5] 0 he.out (by omega))
  have NO := hU (ownsRow_far O5.out (grow_setCells (q + 1) [.slice A5 (L ++ [addNew L D]).length c5] 0 w5 w5 (World.grownBy.refl _ _)) (show q + 1 < q + 2 by omega))
  clear K5 K4 hC5 he O5 o5
  generalize w5.setCells (q + 1) 0 [.slice A5 (L ++ [addNew L D]).length c5] = w6 at *
  refine wpAny_done (by kernel_rfl) ?_ _
  go_wp2_with fail
  go_roundw
  case rel => exact ⟨L.length + 1, _, L ++ [addNew L D], hlt, by go_num, by simp, HL.out.snoc HDo.out.1 HDo.out.2.1 (by omega), fun d hd => by
   rcases List.mem_append.1 hd with hd | hd
   · exact HD.out d hd
   · obtain rfl := List.mem_singleton.1 hd; exact HDr.out, NO.out, N4.out, N5.out, NC.out, NE.out⟩
  case measure => simp [intOf]; omega
end Go.Proofs.YtgeengkdgdjcjaaGreat
