/-
  MoreB; FollowsB; HeadsOks: No condition.
-/
import Derived.Test.YtgeengkdgdjcjaaGreatGrowA
import Derived.Test.YtgeengkdgdjcjaaGreatStoreL
import Derived.Test.YtgeengkdgdjcjaaGreatFrames
import Derived.Test.YtgeengkdgdjcjaaGreatBroker1
import Derived.Test.YtgeengkdgdjcjaaGreatBunch
namespace Go.Proofs.YtgeengkdgdjcjaaGreat
set_option maxHeartbeats 4000000
set_option maxRecDepth 100000
set_option linter.unusedSimpArgs false
open Go.RowKit
set_option linter.unusedVariables false
theorem get_mid {pre mid post : List Value} {o : Nat} (hp : pre.length = o) (k : Nat) (hk : k < mid.length) : (pre ++ mid ++ post).toArray[o + k]? = mid[k]? := by
 subst hp
 rw [List.getElem?_toArray, List.append_assoc, List.getElem?_append_right (by omega), Nat.add_sub_cancel_left, List.getElem?_append_left hk]
theorem set_mid {pre mid post : List Value} {o : Nat} (hp : pre.length = o) (k : Nat) (hk : k < mid.length) (x : Value) : (pre ++ mid ++ post).toArray.setIfInBounds (o + k) x = (pre ++ mid.set k x ++ post).toArray := by
 subst hp
 rw [List.setIfInBounds_toArray, List.append_assoc, List.set_append_right _ _ (by omega), Nat.add_sub_cancel_left, List.set_append_left _ _ hk, List.append_assoc]
def sealCs (n1 : Int) (v1 : Value) (n2 : Int) (v2 : Value) (h : HeadD) : List Value := [.int .i64 n1, v1, .int .i64 n2, v2, .int .i64 h.number, .int .i64 h.size, .string h.root, .int .i64 h.taken, .string h.takenRoot]
theorem put_mid {w : World} {g T o : Nat} {pre post : List Value} {n1 n2 : Int} {v1 v2 : Value} {h h' : HeadD} (hB : Blk w g T (pre ++ sealCs n1 v1 n2 v2 h ++ post).toArray) (hp : pre.length = o) : Blk (w.setCells g (o + 4) [.int .i64 h'.number, .int .i64 h'.size, .string h'.root, .int .i64 h'.taken, .string h'.takenRoot]) g T (pre ++ sealCs n1 v1 n2 v2 h' ++ post).toArray := by
 subst hp
 refine hB.put (pre.length + 4) [.int .i64 h'.number, .int .i64 h'.size, .string h'.root, .int .i64 h'.taken, .string h'.takenRoot] _ (by simp [sealCs]; omega) ?_
 have a : (pre ++ sealCs n1 v1 n2 v2 h ++ post).take (pre.length + 4) = pre ++ [.int .i64 n1, v1, .int .i64 n2, v2] := by
  rw [List.append_assoc, List.take_append, List.take_of_length_le (by omega), Nat.add_sub_cancel_left]; rfl
 have b : (pre ++ sealCs n1 v1 n2 v2 h ++ post).drop (pre.length + 4 + 5) = post := by
  rw [List.append_assoc, List.drop_append, List.drop_eq_nil_of_le (by omega), show pre.length + 4 + 5 - pre.length = 9 by omega]; rfl
 have c : ((pre ++ sealCs n1 v1 n2 v2 h ++ post).toArray.toList.take (pre.length + 4) ++ [.int .i64 h'.number, .int .i64 h'.size, .string h'.root, .int .i64 h'.taken, .string h'.takenRoot] ++ (pre ++ sealCs n1 v1 n2 v2 h ++ post).toArray.toList.drop (pre.length + 4 + 5)) = pre ++ sealCs n1 v1 n2 v2 h' ++ post := by
  show (pre ++ sealCs n1 v1 n2 v2 h ++ post).take (pre.length + 4) ++ [.int .i64 h'.number, .int .i64 h'.size, .string h'.root, .int .i64 h'.taken, .string h'.takenRoot] ++ (pre ++ sealCs n1 v1 n2 v2 h ++ post).drop (pre.length + 4 + 5) = _
  rw [a, b]; simp [sealCs]
 exact congrArg List.toArray c.symm
theorem RowT.reads {B : Nat} {w : World} {v : Value} {ts : List ByteArray} (h : RowT B w v ts) : ∃ A c, v = .slice A ts.length c ∧ ts.length ≤ c ∧ ReadsL w w.heap.size sone 1 A ts := by
 obtain ⟨A, c, rfl, hc⟩ := ownsRow_form h
 exact ⟨A, c, rfl, hc, Reads.of_own h⟩
theorem RowT.readsR {B : Nat} {w : World} {v : Value} {s : List ByteArray} (h : RowT B w v s.reverse) : ∃ A c, v = .slice A s.length c ∧ ReadsL w w.heap.size sone 1 A s.reverse := by
 obtain ⟨A, c, e, _, hr⟩ := h.reads
 rw [List.length_reverse] at e
 exact ⟨A, c, e, hr⟩
theorem more_any (wd : Int) (hwd : inR wd 1 32 = true) (B g T o n1 n2 : Nat) (pre post : List Value) (v1 v2 : Value) (h : HeadD) (s1 s2 : List ByteArray) (A1 : Option Addr) (c1 : Nat) (l1 : List ByteArray) (A2 : Option Addr) (c2 : Nat) (l2 : List ByteArray) (w : World)
 (hp : pre.length = o) (hB : Blk w g T (pre ++ sealCs n1 v1 n2 v2 h ++ post).toArray) (hT : T ≠ 9) (hr1 : RowT B w v1 s1.reverse) (hr2 : RowT B w v2 s2.reverse) (hne : ∀ x, v1.ownBlock = some x → v2.ownBlock ≠ some x) (hBw : B ≤ w.heap.size)
 (hs1 : ∀ x ∈ s1, WdT wd x) (hs2 : ∀ x ∈ s2, WdT wd x) (hn1 : s1.length = pc n1) (hn2 : s2.length = pc n2) (hm1 : n1 ≤ 20000) (hm2 : n2 ≤ 20000) (hl1 : l1.length ≤ 20000) (hl2 : l2.length ≤ 20000) (hnum : 0 ≤ h.number ∧ h.number ≤ 100000)
 (hq1 : SlF (fun b => b ≠ g ∧ v1.ownBlock ≠ some b ∧ v2.ownBlock ≠ some b) sone 1 w A1 l1 c1) (hq2 : SlF (fun b => b ≠ g ∧ v1.ownBlock ≠ some b ∧ v2.ownBlock ≠ some b) sone 1 w A2 l2 c2) (hw1 : ∀ x ∈ l1, WdT wd x) (hw2 : ∀ x ∈ l2, WdT wd x) :
 Calls Tryz.prog 201 #[.pointer (some ⟨g, o, none⟩), .int .i64 wd, .slice A1 l1.length c1, .slice A2 l2.length c2] w fun e w' => ∃ m v1' v2', e = .returned (.int .i64 m) ∧
  Blk w' g T (pre ++ sealCs ((n1 + l1.length : Nat) : Int) v1' ((n2 + l2.length : Nat) : Int) v2' ⟨h.number + 1, ((n1 + l1.length : Nat) : Int), rootS (ndB wd) (emptyR wd) (growL (ndB wd) n1 s1 l1), ((n2 + l2.length : Nat) : Int), rootS (ndB wd) (emptyR wd) (growL (ndB wd) n2 s2 l2)⟩ ++ post).toArray ∧
  RowT B w' v1' (growL (ndB wd) n1 s1 l1).reverse ∧ RowT B w' v2' (growL (ndB wd) n2 s2 l2).reverse ∧ Frm (fun b => b = g ∨ v1.ownBlock = some b ∨ v2.ownBlock = some b) w w' ∧ Moved v1 v1' w.heap.size ∧ Moved v2 v2' w.heap.size ∧ (∀ x, v1'.ownBlock = some x → v2'.ownBlock ≠ some x) := by
 have C1 := hU (growAll_any wd hwd B g T o n1 _ v1 s1 A1 c1 l1 w hB hT (by have := get_mid (post := post) hp 0 (mid := sealCs n1 v1 n2 v2 h) (by simp [sealCs]); exact this) (get_mid (post := post) hp 1 (mid := sealCs n1 v1 n2 v2 h) (by simp [sealCs])) hr1 hBw hs1 hn1 (by omega) (by omega) (hq1.mono fun b hb => ⟨hb.1, hb.2.1⟩) hw1)
 have HR1 := hU hr1; have HR2 := hU hr2; have HQ2 := hU hq2.here; have HN := hU hne
 have ap2 := hU (hr2.apart hB hT); have ap1 := hU (hr1.apart hB hT)
 have lt2 := hU hr2.lt; have lt1 := hU hr1.lt
 have L1 := hU (growL_len (ndB wd) l1 n1 s1 hn1); have L2 := hU (growL_len (ndB wd) l2 n2 s2 hn2)
 have W1 := hU (growL_all (ndB_wd hwd) l1 n1 s1 hs1 hw1); have W2 := hU (growL_all (ndB_wd hwd) l2 n2 s2 hs2 hw2)
 have S2 := hU hs2; have N2 := hU hn2; have Q2 := hU hw2
 have p1 := pc_le (n1 + l1.length); have p2 := pc_le (n2 + l2.length)
 have gb1 : (growL (ndB wd) n1 s1 l1).length ≤ 100000 := by rw [L1.out]; omega
 have gb2 : (growL (ndB wd) n2 s2 l2).length ≤ 100000 := by rw [L2.out]; omega
 have hgl := hB.lt
 clear hB hr1 hr2 hne hs1 hs2 hn1 hn2 hq1 hq2 hw1 hw2 p1 p2
 obtain ⟨G1, hG1⟩ : ∃ G1, G1 = growL (ndB wd) n1 s1 l1 := ⟨_, rfl⟩
 obtain ⟨G2, hG2⟩ : ∃ G2, G2 = growL (ndB wd) n2 s2 l2 := ⟨_, rfl⟩
 rw [← hG1] at C1 L1 W1 gb1
 rw [← hG2] at L2 W2 gb2
 rw [← hG1, ← hG2]
 have HG2 := hU hG2
 clear hG1 hG2
 obtain ⟨r1, hr1⟩ : ∃ r1, r1 = rootS (ndB wd) (emptyR wd) G1 := ⟨_, rfl⟩
 obtain ⟨r2, hr2⟩ : ∃ r2, r2 = rootS (ndB wd) (emptyR wd) G2 := ⟨_, rfl⟩
 rw [← hr1, ← hr2]
 have Hr1 := hU hr1; have Hr2 := hU hr2
 clear hr1 hr2
 go_enter Tryz.func201, Tryz.ntmps201
 go_wp2_with fail
 refine C1.out.mono ?_
 rintro e w1 ⟨m1, v1', rfl, hB1, hR1, hF1, hM1⟩
 rw [show o = o + 0 from rfl, set_mid hp 0 (by simp [sealCs]), show o + 0 + 1 = o + 1 from rfl, set_mid hp 1 (by simp [sealCs])] at hB1
 replace hB1 : Blk w1 g T (pre ++ sealCs ((n1 + l1.length : Nat) : Int) v1' n2 v2 h ++ post).toArray := hB1
 have hR2 : RowT B w1 v2 s2.reverse := hF1.own HR2.out (fun b hb hx => by
  rcases hx with e | e
  · exact ap2.out b hb e
  · exact HN.out b e hb)
 have C2 := hU (growAll_any wd hwd B g T (o + 2) n2 _ v2 s2 A2 c2 l2 w1 hB1 hT (get_mid (post := post) hp 2 (by simp [sealCs])) (get_mid (post := post) hp 3 (by simp [sealCs])) hR2 (Nat.le_trans hBw hF1.size) S2.out N2.out (by omega) (by omega)
  ((HQ2.out.frm hF1 (fun b hb hx hy => by
    rcases hy with e | e
    · exact hx.1.1 e
    · exact hx.1.2.1 e)).mono fun b hb => ⟨hb.1.1, hb.1.2.2⟩) Q2.out)
 rw [← HG2.out] at C2
 have HB1 := hU hB1; have HRa := hU hR1; have HF1 := hU hF1; have HM1 := hU hM1
 clear hB1 hR1 hR2 hF1 hM1 C1
 go_wp2_with fail
 refine C2.out.mono ?_
 rintro e w2 ⟨m2, v2', rfl, hB2, hR2, hF2, hM2⟩
 rw [set_mid hp 2 (by simp [sealCs]), show o + 2 + 1 = o + 3 from rfl, set_mid hp 3 (by simp [sealCs])] at hB2
 replace hB2 : Blk w2 g T (pre ++ sealCs ((n1 + l1.length : Nat) : Int) v1' ((n2 + l2.length : Nat) : Int) v2' h ++ post).toArray := hB2
 have hne2 : ∀ x, v1'.ownBlock = some x → v2.ownBlock ≠ some x := fun x hx hy => by
  rcases HM1.out x hx with h | h
  · exact HN.out x h hy
  · have := (lt2.out x hy).2; omega
 have hR1 : RowT B w2 v1' G1.reverse := hF2.own HRa.out (fun b hb hx => by
  rcases hx with e | e
  · exact (RowT.apart HRa.out HB1.out hT) b hb e
  · exact hne2 b hb e)
 have hF : Frm (fun b => b = g ∨ v1.ownBlock = some b ∨ v2.ownBlock = some b) w w2 := (HF1.out.mono (fun b _ h => h.imp id Or.inl)).next hF2 (fun y hy hx => hx.imp id Or.inr)
 have hM2' : Moved v2 v2' w.heap.size := fun x hx => (hM2 x hx).imp id (fun h => Nat.le_trans HF1.out.size h)
 have hne3 : ∀ x, v1'.ownBlock = some x → v2'.ownBlock ≠ some x := fun x hx hy => by
  rcases hM2 x hy with h | h
  · exact hne2 x hx h
  · have := (HRa.out.lt x hx).2; omega
 have HB2 := hU hB2; have HRx := hU hR1; have HRy := hU hR2; have HF := hU hF; have HM2 := hU hM2'; have HN3 := hU hne3
 clear HB1 HRa HF1 hB2 hR1 hR2 hF2 hM2 hF hM2' hne2 hne3 C2
 obtain ⟨Aa, ca, rfl, rd1⟩ := HRx.out.readsR
 obtain ⟨Ab, cb, rfl, rd2⟩ := HRy.out.readsR
 have RD1 := hU rd1; have RD2 := hU rd2
 clear rd1 rd2
 obtain ⟨hc, hf⟩ := HB2.out.rules
 have x0 : w2.cell? ⟨g, o, none⟩ = some (.int .i64 ((n1 + l1.length : Nat) : Int)) := (hc (o + 0)).trans (get_mid hp 0 (by simp [sealCs]))
 have x1 : w2.cell? ⟨g, o + 1, none⟩ = some (.slice Aa G1.length ca) := (hc (o + 1)).trans (get_mid hp 1 (by simp [sealCs]))
 have x2 : w2.cell? ⟨g, o + 2, none⟩ = some (.int .i64 ((n2 + l2.length : Nat) : Int)) := (hc (o + 2)).trans (get_mid hp 2 (by simp [sealCs]))
 have x3 : w2.cell? ⟨g, o + 3, none⟩ = some (.slice Ab G2.length cb) := (hc (o + 3)).trans (get_mid hp 3 (by simp [sealCs]))
 have R1 := hU (root_any wd hwd ((n1 + l1.length : Nat) : Int) Aa ca G1.reverse w2 (by simpa using gb1) RD1.out (fun x hx => W1.out x (by simpa using hx)))
 rw [List.reverse_reverse, List.length_reverse, ← Hr1.out] at R1
 clear hc
 obtain ⟨N1, hN1⟩ : ∃ N1, N1 = n1 + l1.length := ⟨_, rfl⟩
 obtain ⟨N2, hN2⟩ : ∃ N2, N2 = n2 + l2.length := ⟨_, rfl⟩
 go_wp2_with fail
 refine R1.out.mono ?_
 rintro e w3 ⟨m3, rfl, h3⟩
 have y2 : w3.cell? ⟨g, o + 2, none⟩ = some (.int .i64 ((n2 + l2.length : Nat) : Int)) := (h3.cell (p := ⟨g, o + 2, none⟩) HB2.out.lt).trans x2
 have y3 : w3.cell? ⟨g, o + 3, none⟩ = some (.slice Ab G2.length cb) := (h3.cell (p := ⟨g, o + 3, none⟩) HB2.out.lt).trans x3
 have R2 := hU (root_any wd hwd ((n2 + l2.length : Nat) : Int) Ab cb G2.reverse w3 (by simpa using gb2) (RD2.out.ext h3) (fun x hx => W2.out x (by simpa using hx)))
 rw [List.reverse_reverse, List.length_reverse, ← Hr2.out] at R2
 replace HB2 := hU (HB2.out.ext h3); replace HRx := hU (HRx.out.ext h3); replace HRy := hU (HRy.out.ext h3); replace HF := hU (HF.out.ext h3)
 clear h3 x0 x1 x2 x3 hf RD1 RD2
 go_wp2_with fail
 refine R2.out.mono ?_
 rintro e w4 ⟨m4, rfl, h4⟩
 replace HB2 := hU (HB2.out.ext h4); replace HRx := hU (HRx.out.ext h4); replace HRy := hU (HRy.out.ext h4); replace HF := hU (HF.out.ext h4)
 clear h4 y2 y3
 obtain ⟨hc, hf⟩ := HB2.out.rules
 have x0 : w4.cell? ⟨g, o, none⟩ = some (.int .i64 ((n1 + l1.length : Nat) : Int)) := (hc (o + 0)).trans (get_mid hp 0 (by simp [sealCs]))
 have x2 : w4.cell? ⟨g, o + 2, none⟩ = some (.int .i64 ((n2 + l2.length : Nat) : Int)) := (hc (o + 2)).trans (get_mid hp 2 (by simp [sealCs]))
 have x4 : w4.cell? ⟨g, o + 4, none⟩ = some (.int .i64 h.number) := (hc (o + 4)).trans (get_mid hp 4 (by simp [sealCs]))
 clear hc
 have f4 : w4.frozen? ⟨g, o + 4, none⟩ = false := hf _
 obtain ⟨N1, hN1⟩ : ∃ N1 : Int, N1 = ((n1 + l1.length : Nat) : Int) := ⟨_, rfl⟩
 obtain ⟨N2, hN2⟩ : ∃ N2 : Int, N2 = ((n2 + l2.length : Nat) : Int) := ⟨_, rfl⟩
 have HN1 := hU hN1; have HN2 := hU hN2
 rw [← hN1] at x0 HB2
 rw [← hN2] at x2 HB2
 clear hN1 hN2 R1 R2 hf
 have hwr : IntKind.i64.wrap (h.number + 1) = h.number + 1 := IntWalk.i64_in _ (by omega)
 go_wp2_with fail
 go_still_tail 22, (by kernel_rfl)
 change wpList _ _ _ _ _ w4.drew
 generalize hd4 : w4.drew = w6
 replace HB2 : Hid (Blk w6 g T (pre ++ sealCs N1 (.slice Aa G1.length ca) N2 (.slice Ab G2.length cb) h ++ post).toArray) := hU (by rw [← hd4]; exact HB2.out)
 replace HRx : Hid (RowT B w6 (.slice Aa G1.length ca) G1.reverse) := hU (by rw [← hd4]; exact HRx.out)
 replace HRy : Hid (RowT B w6 (.slice Ab G2.length cb) G2.reverse) := hU (by rw [← hd4]; exact HRy.out)
 replace HF : Hid (Frm (fun b => b = g ∨ v1.ownBlock = some b ∨ v2.ownBlock = some b) w w6) := hU (by rw [← hd4]; exact HF.out.drew)
 have T4 := hU (HB2.out.there (o + 4) 5 (by simp [sealCs]; omega))
 clear hd4 x0 x2 x4 f4
 obtain ⟨w5, hw5, hz, hx⟩ : ∃ w5, w5 = w6.setCells g (o + 4) [.int .i64 (h.number + 1), .int .i64 N1, .string r1, .int .i64 N2, .string r2] ∧
  Blk w5 g T (pre ++ sealCs N1 (.slice Aa G1.length ca) N2 (.slice Ab G2.length cb) ⟨h.number + 1, N1, r1, N2, r2⟩ ++ post).toArray ∧ Frm (fun b => b = g ∨ v1.ownBlock = some b ∨ v2.ownBlock = some b) w w5 :=
  ⟨_, rfl, put_mid (h' := ⟨h.number + 1, N1, r1, N2, r2⟩) HB2.out hp, HF.out.setCells (g := g) (fun _ => Or.inl rfl) _ _⟩
 have hk5 : Frm (fun b => b = g) w6 w5 := by rw [hw5]; exact Frm.setCells (X := fun b => b = g) (Frm.refl _ w6) (g := g) (fun _ => rfl) _ _
 have ra5 : RowT B w5 (.slice Aa G1.length ca) G1.reverse := hk5.own HRx.out (fun b hb => (RowT.apart HRx.out HB2.out hT) b hb)
 have rb5 : RowT B w5 (.slice Ab G2.length cb) G2.reverse := hk5.own HRy.out (fun b hb => (RowT.apart HRy.out HB2.out hT) b hb)
 have HW := hU hw5; have HZ := hU hz; have HX := hU hx; have RA5 := hU ra5; have RB5 := hU rb5
 clear hw5 hz hx hk5 ra5 rb5 HRx HRy HF
 go_wp2_with (first | (refine wpList_store_list rfl 33 _ _ rfl rfl g (o + 4) [.int .i64 (h.number + 1), .int .i64 N1, .string r1, .int .i64 N2, .string r2] rfl rfl T4.out (by kernel_rfl) (by rfl) ?_; rw [← HW.out]))
 go_ret
 exact ⟨_, _, _, rfl, by rw [← HN1.out, ← HN2.out]; exact HZ.out, RA5.out, RB5.out, HX.out, HM1.out, HM2.out, HN3.out⟩
theorem followsB_n {n : Int} {a b : HeadD} (h : decide (b.number ≤ a.number) = true) : followsB n a b = false := by
 have := of_decide_eq_true h
 rw [followsB, decide_eq_false (show ¬ a.number < b.number by omega)]; simp
theorem followsB_s {n : Int} {a b : HeadD} (h : decide (b.size < a.size) = true) : followsB n a b = false := by
 have := of_decide_eq_true h
 rw [followsB, decide_eq_false (show ¬ a.size ≤ b.size by omega)]; simp
theorem followsB_t {n : Int} {a b : HeadD} (h : decide (b.taken < a.taken) = true) : followsB n a b = false := by
 have := of_decide_eq_true h
 rw [followsB, decide_eq_false (show ¬ a.taken ≤ b.taken by omega)]; simp
theorem followsB_p {n : Int} {a b : HeadD} (b1 : headOk n a = true) (b2 : headOk n b = true) (h1 : decide (b.number ≤ a.number) = false) (h2 : decide (b.size < a.size) = false) (h3 : decide (b.taken < a.taken) = false) : followsB n a b = !parted a b := by
 have := of_decide_eq_false h1
 have := of_decide_eq_false h2
 have := of_decide_eq_false h3
 rw [followsB, b1, b2, decide_eq_true (show a.number < b.number by omega), decide_eq_true (show a.size ≤ b.size by omega), decide_eq_true (show a.taken ≤ b.taken by omega)]; simp
theorem implFollows_any (n : Int) (a b : HeadD) (w : World) : Calls Tryz.prog 199 #[.int .i64 n, .agg #[.int .i64 a.number, .int .i64 a.size, .string a.root, .int .i64 a.taken, .string a.takenRoot], .agg #[.int .i64 b.number, .int .i64 b.size, .string b.root, .int .i64 b.taken, .string b.takenRoot]] w fun e w' => e = .returned (.bool (followsB n a b)) ∧ Ext w w' := by
 obtain ⟨B0, B1, he⟩ := two_blks w #[.int .i64 a.number, .int .i64 a.size, .string a.root, .int .i64 a.taken, .string a.takenRoot] #[.int .i64 b.number, .int .i64 b.size, .string b.root, .int .i64 b.taken, .string b.takenRoot] 33 33
 have K0 := hU B0; have K1 := hU B1; have He := hU he
 obtain ⟨r0, m0⟩ := B0.rules
 obtain ⟨r1, m1⟩ := B1.rules
 clear B0 B1 he
 obtain ⟨fin, hfin⟩ : ∃ fin, fin = followsB n a b := ⟨_, rfl⟩
 rw [← hfin]
 cases b1 : headOk n a
 · have E := hU (show fin = false by rw [hfin]; simp [followsB, b1])
   clear hfin
   go_enter Tryz.func199, Tryz.ntmps199
   go_wp2_with fail
   obtain ⟨g, hg⟩ : ∃ g, g = w.heap.size := ⟨_, rfl⟩
   rw [← hg] at K0 K1
   rw [← hg]
   clear hg r0 m0 r1 m1
   have C0 := K0.out; have C1 := K1.out; have he := He.out
   clear K0 K1 He
   refine (implHeadOk_any n a _).mono ?_
   rintro e w1 ⟨rfl, h1⟩
   replace C0 := C0.ext h1; replace C1 := C1.ext h1; replace he := he.next h1; clear h1
   obtain ⟨r0, m0⟩ := C0.rules
   obtain ⟨r1, m1⟩ := C1.rules
   go_wp2_with fail
   go_ret
   exact ⟨ret_bool E.out.symm, he⟩
 cases b2 : headOk n b
 · have E := hU (show fin = false by rw [hfin]; simp [followsB, b2])
   clear hfin
   go_enter Tryz.func199, Tryz.ntmps199
   go_wp2_with fail
   obtain ⟨g, hg⟩ : ∃ g, g = w.heap.size := ⟨_, rfl⟩
   rw [← hg] at K0 K1
   rw [← hg]
   clear hg r0 m0 r1 m1
   have C0 := K0.out; have C1 := K1.out; have he := He.out
   clear K0 K1 He
   refine (implHeadOk_any n a _).mono ?_
   rintro e w2 ⟨rfl, h1⟩
   replace C0 := C0.ext h1; replace C1 := C1.ext h1; replace he := he.next h1; clear h1
   obtain ⟨r0, m0⟩ := C0.rules
   obtain ⟨r1, m1⟩ := C1.rules
   go_wp2_with fail
   refine (implHeadOk_any n b _).mono ?_
   rintro e w3 ⟨rfl, h1⟩
   replace C0 := C0.ext h1; replace C1 := C1.ext h1; replace he := he.next h1; clear h1
   clear r0 m0 r1 m1
   obtain ⟨r0, m0⟩ := C0.rules
   obtain ⟨r1, m1⟩ := C1.rules
   go_wp2_with fail
   go_ret
   exact ⟨ret_bool E.out.symm, he⟩
 cases d1 : decide (b.number ≤ a.number)
 case true =>
  have E := hU (show fin = false by rw [hfin]; exact followsB_n d1)
  clear hfin
  go_enter Tryz.func199, Tryz.ntmps199
  go_wp2_with fail
  obtain ⟨g, hg⟩ : ∃ g, g = w.heap.size := ⟨_, rfl⟩
  rw [← hg] at K0 K1
  rw [← hg]
  clear hg r0 m0 r1 m1
  have C0 := K0.out; have C1 := K1.out; have he := He.out
  clear K0 K1 He
  refine (implHeadOk_any n a _).mono ?_
  rintro e w4 ⟨rfl, h1⟩
  replace C0 := C0.ext h1; replace C1 := C1.ext h1; replace he := he.next h1; clear h1
  obtain ⟨r0, m0⟩ := C0.rules
  obtain ⟨r1, m1⟩ := C1.rules
  go_wp2_with fail
  refine (implHeadOk_any n b _).mono ?_
  rintro e w5 ⟨rfl, h1⟩
  replace C0 := C0.ext h1; replace C1 := C1.ext h1; replace he := he.next h1; clear h1
  clear r0 m0 r1 m1
  obtain ⟨r0, m0⟩ := C0.rules
  obtain ⟨r1, m1⟩ := C1.rules
  go_wp2_with fail
  go_ret
  exact ⟨ret_bool E.out.symm, he⟩
 cases d2 : decide (b.size < a.size)
 case true =>
  have E := hU (show fin = false by rw [hfin]; exact followsB_s d2)
  clear hfin
  go_enter Tryz.func199, Tryz.ntmps199
  go_wp2_with fail
  obtain ⟨g, hg⟩ : ∃ g, g = w.heap.size := ⟨_, rfl⟩
  rw [← hg] at K0 K1
  rw [← hg]
  clear hg r0 m0 r1 m1
  have C0 := K0.out; have C1 := K1.out; have he := He.out
  clear K0 K1 He
  refine (implHeadOk_any n a _).mono ?_
  rintro e w6 ⟨rfl, h1⟩
  replace C0 := C0.ext h1; replace C1 := C1.ext h1; replace he := he.next h1; clear h1
  obtain ⟨r0, m0⟩ := C0.rules
  obtain ⟨r1, m1⟩ := C1.rules
  go_wp2_with fail
  refine (implHeadOk_any n b _).mono ?_
  rintro e w7 ⟨rfl, h1⟩
  replace C0 := C0.ext h1; replace C1 := C1.ext h1; replace he := he.next h1; clear h1
  clear r0 m0 r1 m1
  obtain ⟨r0, m0⟩ := C0.rules
  obtain ⟨r1, m1⟩ := C1.rules
  go_wp2_with fail
  go_ret
  exact ⟨ret_bool E.out.symm, he⟩
 cases d3 : decide (b.taken < a.taken)
 case true =>
  have E := hU (show fin = false by rw [hfin]; exact followsB_t d3)
  clear hfin
  go_enter Tryz.func199, Tryz.ntmps199
  go_wp2_with fail
  obtain ⟨g, hg⟩ : ∃ g, g = w.heap.size := ⟨_, rfl⟩
  rw [← hg] at K0 K1
  rw [← hg]
  clear hg r0 m0 r1 m1
  have C0 := K0.out; have C1 := K1.out; have he := He.out
  clear K0 K1 He
  refine (implHeadOk_any n a _).mono ?_
  rintro e w8 ⟨rfl, h1⟩
  replace C0 := C0.ext h1; replace C1 := C1.ext h1; replace he := he.next h1; clear h1
  obtain ⟨r0, m0⟩ := C0.rules
  obtain ⟨r1, m1⟩ := C1.rules
  go_wp2_with fail
  refine (implHeadOk_any n b _).mono ?_
  rintro e w9 ⟨rfl, h1⟩
  replace C0 := C0.ext h1; replace C1 := C1.ext h1; replace he := he.next h1; clear h1
  clear r0 m0 r1 m1
  obtain ⟨r0, m0⟩ := C0.rules
  obtain ⟨r1, m1⟩ := C1.rules
  go_wp2_with fail
  go_ret
  exact ⟨ret_bool E.out.symm, he⟩
 have E := hU (show fin = !parted a b by rw [hfin]; exact followsB_p b1 b2 d1 d2 d3)
 clear hfin
 go_enter Tryz.func199, Tryz.ntmps199
 go_wp2_with fail
 obtain ⟨g, hg⟩ : ∃ g, g = w.heap.size := ⟨_, rfl⟩
 rw [← hg] at K0 K1
 rw [← hg]
 clear hg r0 m0 r1 m1
 have C0 := K0.out; have C1 := K1.out; have he := He.out
 clear K0 K1 He
 refine (implHeadOk_any n a _).mono ?_
 rintro e w10 ⟨rfl, h1⟩
 replace C0 := C0.ext h1; replace C1 := C1.ext h1; replace he := he.next h1; clear h1
 obtain ⟨r0, m0⟩ := C0.rules
 obtain ⟨r1, m1⟩ := C1.rules
 go_wp2_with fail
 refine (implHeadOk_any n b _).mono ?_
 rintro e w11 ⟨rfl, h1⟩
 replace C0 := C0.ext h1; replace C1 := C1.ext h1; replace he := he.next h1; clear h1
 clear r0 m0 r1 m1
 obtain ⟨r0, m0⟩ := C0.rules
 obtain ⟨r1, m1⟩ := C1.rules
 go_wp2_with fail
 refine (parted_any a b _).mono ?_
 rintro e w12 ⟨rfl, h1⟩
 replace C0 := C0.ext h1; replace C1 := C1.ext h1; replace he := he.next h1; clear h1
 clear r0 m0 r1 m1
 obtain ⟨r0, m0⟩ := C0.rules
 obtain ⟨r1, m1⟩ := C1.rules
 go_wp2_with fail
 go_ret
 exact ⟨ret_bool E.out.symm, he⟩
theorem heads_cells {w : World} {b off c : Nat} {l : List HeadD} (hr : SlF AnyB HeadD.cells 5 w (some ⟨b, off, none⟩) l c) {k : Nat} {d : HeadD} (hd : l[k]? = some d) :
 w.cell? ⟨b, off + k * 5, none⟩ = some (.int .i64 d.number) ∧ w.cell? ⟨b, off + k * 5 + 1, none⟩ = some (.int .i64 d.size) ∧ w.cell? ⟨b, off + k * 5 + 2, none⟩ = some (.string d.root) ∧ w.cell? ⟨b, off + k * 5 + 3, none⟩ = some (.int .i64 d.taken) ∧ w.cell? ⟨b, off + k * 5 + 4, none⟩ = some (.string d.takenRoot) := by
 obtain ⟨b', off', e, hb, hc⟩ := Reads.at_ hr.reads (k := k) (List.getElem?_eq_some_iff.1 hd).1
 cases e
 exact ⟨hc 0 _ (flat_at _ 5 HeadD.cells_length l k 0 d hd (by omega)), hc 1 _ (flat_at _ 5 HeadD.cells_length l k 1 d hd (by omega)), hc 2 _ (flat_at _ 5 HeadD.cells_length l k 2 d hd (by omega)), hc 3 _ (flat_at _ 5 HeadD.cells_length l k 3 d hd (by omega)), hc 4 _ (flat_at _ 5 HeadD.cells_length l k 4 d hd (by omega))⟩
theorem headAt_zero {n : Int} {l : List HeadD} {k : Nat} {d : HeadD} (hd : l[k]? = some d) (h0 : k = 0) : headAt n l k = (headOk n d && (d.number == (k : Int))) := by
 subst h0; rw [headAt, hd]; simp
theorem headAt_next {n : Int} {l : List HeadD} {k j : Nat} {d e : HeadD} (hd : l[k]? = some d) (hj : k = j + 1) (he : l[j]? = some e) : headAt n l k = (headOk n d && (d.number == (k : Int)) && followsB n e d) := by
 subst hj; rw [headAt, hd]; simp [he]
theorem headAt_bad {n : Int} {l : List HeadD} {k : Nat} {d : HeadD} (hd : l[k]? = some d) (h : (headOk n d && (d.number == (k : Int))) = false) : headAt n l k = false := by
 rw [headAt, hd]; simp only; rw [h, Bool.false_and]
end Go.Proofs.YtgeengkdgdjcjaaGreat
