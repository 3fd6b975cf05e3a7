/-
  RightD; HeadBk; CutP; DiskW: No condition.
-/
import Derived.Test.YtgeengkdgdjcjaaGreatRight
import Derived.Test.YtgeengkdgdjcjaaGreatFramesLaw
import Derived.Test.YtgeengkdgdjcjaaGreatSealP
import Derived.Test.YtgeengkdgdjcjaaGreatReopenP
import Derived.Test.YtgeengkdgdjcjaaGreatTextsB
import Derived.Test.YtgeengkdgdjcjaaGreatSpFile
import Derived.Test.YtgeengkdgdjcjaaGreatRecs
import Derived.Test.YtgeengkdgdjcjaaGreatHashes
namespace Go.Proofs.YtgeengkdgdjcjaaGreat
set_option maxHeartbeats 4000000
set_option maxRecDepth 100000
set_option linter.unusedSimpArgs false
open Go.RowKit
set_option linter.unusedVariables false
theorem DrawRight_any (A : Option Addr) (c : Nat) (l : List Int) (w : World) (hlen : l.length ≤ maxLen) (hin : ∀ x ∈ l, ByteIn x) (hr : ReadsL w w.heap.size byteC 1 A l) :
 Calls Tryz.prog 9 #[.slice A l.length c] w fun e w' => ∃ (b : BrokerD) (M : List Value), brokerB b = true ∧ e = .returned (.agg M.toArray) ∧ BVal w.heap.size b M w' ∧ Ext w w' := by
 have Q0 := Blk.new w 37 #[.int .i64 0, .slice none 0 0, .slice none 0 0, .slice none 0 0, .int .i64 0, .slice none 0 0, .int .i64 0, .slice none 0 0, .int .i64 0, .int .i64 0, .string ⟨#[]⟩, .int .i64 0, .string ⟨#[]⟩]
 have he := Ext.new (Below.refl w.heap.size w) (.cells #[.int .i64 0, .slice none 0 0, .slice none 0 0, .slice none 0 0, .int .i64 0, .slice none 0 0, .int .i64 0, .slice none 0 0, .int .i64 0, .int .i64 0, .string ⟨#[]⟩, .int .i64 0, .string ⟨#[]⟩] 37)
 have NW := hU (l01New_any w.heap.size A c l _ he.size hlen hin (Reads.below hr he))
 obtain ⟨q0, hq0⟩ : ∃ q0, q0 = w.heap.size := ⟨_, rfl⟩
 obtain ⟨L, hL⟩ : ∃ L, L = l.length := ⟨_, rfl⟩
 rw [← hL] at NW hlen
 rw [← hL]
 unfold maxLen at hlen
 obtain ⟨k, hk⟩ : ∃ k : Nat, (4 : Int) + (L : Int) / 12 = (k : Int) := ⟨L / 12 + 4, by omega⟩
 clear hin hr hL
 go_enter Tryz.func9, Tryz.ntmps9
 go_upto_region 1 with fail
 rw [← hq0] at Q0
 rw [← hq0]
 obtain ⟨w1, hw1⟩ : ∃ w1, w1 = w.alloc (.cells #[.int .i64 0, .slice none 0 0, .slice none 0 0, .slice none 0 0, .int .i64 0, .slice none 0 0, .int .i64 0, .slice none 0 0, .int .i64 0, .int .i64 0, .string ⟨#[]⟩, .int .i64 0, .string ⟨#[]⟩] 37) := ⟨_, rfl⟩
 rw [← hw1] at Q0 he NW
 rw [← hw1]
 have hqw : w.heap.size ≤ q0 := by omega
 have hq1 : q0 < w1.heap.size := Q0.lt
 clear hw1 hq0
 go_wp2_with fail
 refine NW.out.mono ?_
 rintro e w2 ⟨g, hg, rfl, hc, h1⟩
 have hs1 := he.size
 replace Q0 := Q0.ext h1; replace he := he.next h1
 have CU := hU hc
 have hgl := hc.lt
 clear h1 NW hc
 go_upto_region 3 with fail
 clear hk
 have KK : ∀ (m : Nat), m ≤ 24 → ∀ (x : Int), 0 ≤ x → x < 32 → ∀ (W : World), CurAt W w.heap.size g A c l → Calls Tryz.prog 44 #[.pointer (some ⟨g, 0, none⟩), .int .i64 (1 + x), .int .i64 (m : Int)] W fun e w' => ∃ (b : BrokerD) (M : List Value), brokerB b = true ∧ e = .returned (.agg M.toArray) ∧ BVal W.heap.size b M w' ∧ CurAt w' w.heap.size g A c l ∧ ExtBut g W w' := fun m hm x h0 h1 W hc => l12Right_any w.heap.size g A c l (1 + x) m W (by simp [inR]; omega) hm hc
 have KK := hU KK
 by_cases c24 : 24 < k
 · have d24 : (24 : Int) < (k : Int) := by omega
   go_wp2_with fail
   refine (l01Below_any w.heap.size g A c l 32 _ (by decide) (by decide) CU.out).mono ?_
   rintro e w3 ⟨x, ⟨x0, x1⟩, rfl, hc, kk⟩
   have e5 : IntKind.i64.wrap (1 + x) = 1 + x := IntWalk.i64_in _ (by omega)
   have he3 := he.nextBut (by omega) kk
   have Q3 := Q0.extBut kk (by omega)
   have CU3 := hU hc
   clear hc kk Q0 CU he
   go_wp2_with fail
   refine (KK.out 24 (by omega) x x0 x1 _ CU3.out).mono ?_
   rintro e w4 ⟨b, M, hB, rfl, hv, hc, kk⟩
   have he4 := he3.nextBut (by omega) kk
   have Q4 := Q3.extBut kk (by omega)
   have hs3 := he3.size
   obtain ⟨w5, hw5, z1, z2, z3⟩ : ∃ w5, w5 = w4.setCells q0 0 M ∧ Blk w5 q0 37 M.toArray ∧ BVal w.heap.size b M w5 ∧ Ext w w5 := ⟨_, rfl, put_whole Q4 M (by rw [hv.len]; rfl), (hv.low hs3).putB Q4 M 0, ext_setCells (W := w) hqw M 0 _ he4⟩
   have T := hU (show w4.there q0 0 M.length by rw [hv.len]; exact Q4.there 0 13 (by simp))
   have HW := hU hw5; have Z1 := hU z1; have Z2 := hU z2; have Z3 := hU z3
   have M13 := hU hv.len; have M1 := hU hv.one; have HB := hU hB
   clear hw5 z1 z2 z3 hv hc kk he4 Q4 he3 Q3 CU3 hB KK
   go_wp2_with (refine wpList_store_list rfl 37 _ _ rfl rfl q0 0 M rfl rfl T.out (by rw [M13.out]; kernel_rfl) M1.out ?_; rw [← HW.out])
   exact ret_row rfl rfl Z1.out Tryz.underlying37 rfl (by rw [List.size_toArray, M13.out]; kernel_rfl) rfl ⟨b, M, HB.out, rfl, Z2.out, Z3.out⟩
 · have d24 : ¬ (24 : Int) < (k : Int) := by omega
   go_wp2_with fail
   refine (l01Below_any w.heap.size g A c l 32 _ (by decide) (by decide) CU.out).mono ?_
   rintro e w3 ⟨x, ⟨x0, x1⟩, rfl, hc, kk⟩
   have e5 : IntKind.i64.wrap (1 + x) = 1 + x := IntWalk.i64_in _ (by omega)
   have he3 := he.nextBut (by omega) kk
   have Q3 := Q0.extBut kk (by omega)
   have CU3 := hU hc
   clear hc kk Q0 CU he
   go_wp2_with fail
   refine (KK.out k (by omega) x x0 x1 _ CU3.out).mono ?_
   rintro e w4 ⟨b, M, hB, rfl, hv, hc, kk⟩
   have he4 := he3.nextBut (by omega) kk
   have Q4 := Q3.extBut kk (by omega)
   have hs3 := he3.size
   obtain ⟨w5, hw5, z1, z2, z3⟩ : ∃ w5, w5 = w4.setCells q0 0 M ∧ Blk w5 q0 37 M.toArray ∧ BVal w.heap.size b M w5 ∧ Ext w w5 := ⟨_, rfl, put_whole Q4 M (by rw [hv.len]; rfl), (hv.low hs3).putB Q4 M 0, ext_setCells (W := w) hqw M 0 _ he4⟩
   have T := hU (show w4.there q0 0 M.length by rw [hv.len]; exact Q4.there 0 13 (by simp))
   have HW := hU hw5; have Z1 := hU z1; have Z2 := hU z2; have Z3 := hU z3
   have M13 := hU hv.len; have M1 := hU hv.one; have HB := hU hB
   clear hw5 z1 z2 z3 hv hc kk he4 Q4 he3 Q3 CU3 hB KK
   go_wp2_with (refine wpList_store_list rfl 37 _ _ rfl rfl q0 0 M rfl rfl T.out (by rw [M13.out]; kernel_rfl) M1.out ?_; rw [← HW.out])
   exact ret_row rfl rfl Z1.out Tryz.underlying37 rfl (by rw [List.size_toArray, M13.out]; kernel_rfl) rfl ⟨b, M, HB.out, rfl, Z2.out, Z3.out⟩
theorem head_back {n : Int} {d : HeadD} (h : headOk n d = true) : hrImpl n (headText n d) = true ∧ hrD n (headText n d) = d := by
 obtain ⟨k, s, r, t, q⟩ := d
 have hk := h
 obtain ⟨n0, n1, k0, k1, s0, s1, r0, t0, t1, q0⟩ := headOk_bounds h
 obtain ⟨k, rfl⟩ := nat_of k0
 obtain ⟨s, rfl⟩ := nat_of s0
 obtain ⟨t, rfl⟩ := nat_of t0
 (try simp only at k1 s1 t1 r0 q0)
 have hw : inR n 1 32 = true := by simp [inR]; omega
 have R0 := Rest.start (headText n ⟨(k : Int), (s : Int), r, (t : Int), q⟩)
 have e : headText n ⟨(k : Int), (s : Int), r, (t : Int), q⟩ = lowB k 2 ++ (lowB s 2 ++ (r ++ (lowB t 2 ++ (q ++ ⟨#[]⟩)))) := by
  rw [headText, hk, if_pos rfl, headT, show ∀ X : ByteArray, X ++ (⟨#[]⟩ : ByteArray) = X from fun X => ByteArray.append_empty]
  simp only [ByteArray.append_assoc, Int.toNat_natCast]
 generalize headText n ⟨(k : Int), (s : Int), r, (t : Int), q⟩ = T at *
 rw [e] at R0
 obtain ⟨p0, R1⟩ := R0.take (n := 2) rfl
 rw [← e] at p0 R1
 obtain ⟨p1, R2⟩ := R1.take (n := 2) rfl
 obtain ⟨p2, R3⟩ := R2.take (n := n.toNat) (by omega)
 obtain ⟨p3, R4⟩ := R3.take (n := 2) rfl
 obtain ⟨p4, R5⟩ := R4.take (n := n.toNat) (by omega)
 have hD : hrD n T = ⟨(k : Int), (s : Int), r, (t : Int), q⟩ := by
  show (⟨(beNum (rdTake T rh0 2) : Int), (beNum (rdTake T (rh1 T rh0) 2) : Int), rdTake T (rh2 T rh0) n.toNat, (beNum (rdTake T (rh3 T rh0 n.toNat) 2) : Int), rdTake T (rh4 T rh0 n.toNat) n.toNat⟩ : HeadD) = _
  rw [show rdTake T rh0 2 = _ from p0, show rdTake T (rh1 T rh0) 2 = _ from p1, show rdTake T (rh2 T rh0) n.toNat = _ from p2, show rdTake T (rh3 T rh0 n.toNat) 2 = _ from p3, show rdTake T (rh4 T rh0 n.toNat) n.toNat = _ from p4, beNum_low2 (by omega), beNum_low2 (by omega), beNum_low2 (by omega)]
 refine ⟨?_, hD⟩
 rw [hrImpl, hD, hk, hw, show rdDone T (rh5 T rh0 n.toNat) = true from R5.done]
 rfl
theorem map_id_of {α : Type} {f : α → α} : ∀ {l : List α}, (∀ x ∈ l, f x = x) → l.map f = l
 | [], _ => rfl
 | x :: r, h => by rw [List.map_cons, h x (by simp), map_id_of (fun y hy => h y (by simp [hy]))]
def diskT (b : BrokerD) : List ByteArray := [framesOut (fileT b 0), framesOut (fileT b 1), framesOut (fileT b 2)]
theorem file_unf {b : BrokerD} (hB : brokerB b = true) (f : Nat) : unf (framesOut (fileT b f)) = (fileT b f, (framesOut (fileT b f)).size) ∧ (framesOut (fileT b f)).size ≤ 300000 := by
 obtain ⟨hw, h0, hE, h1, hR, _, h2, hH⟩ := broker_parts hB
 have fk := (frames_ok (file_len h0 h1 h2 f) (file_fits hE hR hH f)).1
 rw [framesOut_yes fk]
 exact ⟨unf_whole fk, (framesOk_all fk).2.2⟩
theorem files_disk {b : BrokerD} (hB : brokerB b = true) : filesOf (diskT b) 0 = textsE b ∧ filesOf (diskT b) 1 = textsH b ∧ filesOf (diskT b) 2 = textsR b := by
 refine ⟨?_, ?_, ?_⟩
 · show (unf (framesOut (fileT b 0))).1 = _
   rw [(file_unf hB 0).1, fileT_0]
 · show (unf (framesOut (fileT b 1))).1 = _
   rw [(file_unf hB 1).1, fileT_1]
 · show (unf (framesOut (fileT b 2))).1 = _
   rw [(file_unf hB 2).1, fileT_2]
theorem reB0_of {b : BrokerD} (hB : brokerB b = true) {l : List ByteArray} (h0 : filesOf l 0 = textsE b) (h1 : filesOf l 1 = textsH b) (h2 : filesOf l 2 = textsR b) : reB0 b.width l = { b with sealed := ⟨⟨0, []⟩, ⟨0, []⟩, hz⟩ } := by
 obtain ⟨hw, _, hE, _, hR, p0, _, hH⟩ := broker_parts hB
 have e0 : (textsE b).map rlD = b.log.entries := by
  rw [textsE, List.map_map]; exact map_id_of (fun x hx => (leaf_back (hE x hx)).2)
 have e2 : (textsR b).map rrD = b.receipts := by
  rw [textsR, List.map_map]; exact map_id_of (fun x hx => (receipt_back (hR x hx)).2)
 have e1 : newH true b.width :: (textsH b).map (hrD b.width) = b.heads := by
  have hz0 : (b.heads.headD hz).eqb (newH true b.width) = true := by
   rw [brokerB, Bool.and_eq_true] at hB
   have p := hB.1
   simp only [brkParts, Bool.and_eq_true] at p
   exact p.1.1.2
  rw [textsH, List.map_map, map_id_of (f := hrD b.width ∘ headText b.width) (fun x hx => (head_back (hH x (List.mem_of_mem_drop hx))).2)]
  cases hh : b.heads with
  | nil => rw [hh] at p0; simp at p0
  | cons x r =>
    rw [hh] at hz0
    rw [show x = newH true b.width from (HeadD.eqb_iff _ _).1 hz0]; rfl
 unfold reB0
 rw [h0, h1, h2, e0, e1, e2]
theorem reB_of {b : BrokerD} (hB : brokerB b = true) {l : List ByteArray} (h0 : filesOf l 0 = textsE b) (h1 : filesOf l 1 = textsH b) (h2 : filesOf l 2 = textsR b) (hd : diskOk l = true) : reB b.width l = b ∧ reCode b.width l = 0 := by
 have e := reB0_of hB h0 h1 h2
 obtain ⟨hw, _, hE, _, hR, p0, _, hH⟩ := broker_parts hB
 have hB' := hB
 rw [brokerB, Bool.and_eq_true] at hB
 have hs := sameSealB_iff.1 hB.2
 have p := hB.1
 have p' := p
 simp only [brkParts, Bool.and_eq_true] at p'
 refine ⟨?_, ?_⟩
 · unfold reB
   rw [e]
   show (⟨b.width, b.log, b.receipts, b.heads, sealOfH b.width (leavesH b.width b.log.entries) (takenH b.width b.receipts) (lastH b.heads)⟩ : BrokerD) = b
   rw [hs]
 · have a0 : (filesOf l 0).all rlImpl = true := by
    rw [h0, textsE, List.all_map, List.all_eq_true]
    exact fun x hx => (leaf_back (hE x hx)).1
   have a1 : (filesOf l 1).all (hrImpl b.width) = true := by
    rw [h1, textsH, List.all_map, List.all_eq_true]
    exact fun x hx => (head_back (hH x (List.mem_of_mem_drop hx))).1
   have a2 : (filesOf l 2).all rrImpl = true := by
    rw [h2, textsR, List.all_map, List.all_eq_true]
    exact fun x hx => (receipt_back (hR x hx)).1
   have b1 : logOk (reB0 b.width l).log.entries = true := by rw [e]; exact p'.1.1.1.1.1.1.2
   have b2 : recsOk (reB0 b.width l).receipts = true := by rw [e]; exact p'.1.1.1.1.1.2
   have b3 : brkParts (reB0 b.width l) = true := by rw [e]; exact p
   rw [reCode, hw, hd, a0, a1, a2, b1, b2, b3]; rfl
theorem disk_ok {b : BrokerD} (hB : brokerB b = true) : diskOk (diskT b) = true := by
 have f0 := (file_unf hB 0).2; have f1 := (file_unf hB 1).2; have f2 := (file_unf hB 2).2
 simp [diskOk, diskT, fileOk, f0, f1, f2]
theorem dmg_whole {b : BrokerD} (hB : brokerB b = true) (i f : Nat) : dmg1 i (framesOut (fileT b f)) = [] := by
 rw [dmg1, (file_unf hB f).1, if_neg (Nat.lt_irrefl _)]
theorem disk_again {b : BrokerD} (hB : brokerB b = true) : reB b.width (diskT b) = b ∧ reCode b.width (diskT b) = 0 ∧ dmgs 0 (diskT b) = [] := by
 obtain ⟨h0, h1, h2⟩ := files_disk hB
 obtain ⟨a, c⟩ := reB_of hB h0 h1 h2 (disk_ok hB)
 refine ⟨a, c, ?_⟩
 simp [diskT, dmgs, dmg_whole hB]
theorem unf_app (U : ByteArray) : ∀ (l : List ByteArray) (f p : Nat) (Y : ByteArray), (∀ T ∈ l, fits1 T = true) → l.length ≤ f → Rest U (fa0 p) (framesT l ++ Y) →
 unfGo U f p = (l ++ (unfGo U (f - l.length) (p + (framesT l).size)).1, (unfGo U (f - l.length) (p + (framesT l).size)).2)
 | [], f, p, Y, _, _, _ => by rw [show p + (framesT []).size = p from rfl]; rfl
 | T :: l, f, p, Y, ht, hf, h => by
   have t1 := ht T (by simp)
   obtain ⟨f, rfl⟩ : ∃ f', f = f' + 1 := ⟨f - 1, by simp at hf; omega⟩
   rw [framesT, ByteArray.append_assoc] at h
   obtain ⟨a1, a2, a3, a4⟩ := frame_at h t1
   have hr : Rest U (fa0 (p + (frameB T).size)) (framesT l ++ Y) := by
    have e3 : fa3 U p = fa0 (p + (frameB T).size) := by
     have hb := a3.1
     cases hfa : fa3 U p with
     | mk pos bad => rw [hfa] at a4 hb; simp only at a4 hb; rw [a4, hb]; rfl
    rw [← e3]; exact a3
   have ih := unf_app U l f (p + (frameB T).size) Y (fun x hx => ht x (by simp [hx])) (by simp at hf; exact hf) hr
   have e1 : f + 1 - (T :: l).length = f - l.length := by simp
   have e2 : p + (framesT (T :: l)).size = p + (frameB T).size + (framesT l).size := by rw [framesT, ByteArray.size_append]; omega
   rw [unfGo, if_pos a1, a2, a4, ih, e1, e2]; rfl
theorem unf_nil {U : ByteArray} : ∀ {f p : Nat}, (unfGo U f p).1 = [] → (unfGo U f p).2 = p
 | 0, _, _ => rfl
 | f + 1, p, h => by
   rw [unfGo] at h ⊢
   split
   · rename_i hk; rw [if_pos hk] at h; simp at h
   · rfl
theorem unf_tail {l : List ByteArray} {Y : ByteArray} (h : framesOk l = true) (hs : (framesT l).size + Y.size ≤ 300000) : ∃ r, (unf (framesT l ++ Y)).1 = l ++ r ∧ (r = [] → (unf (framesT l ++ Y)).2 = (framesT l).size) := by
 obtain ⟨h0, h1, h2⟩ := framesOk_all h
 have e := unf_app (framesT l ++ Y) l 600 0 Y h1 h0 (Rest.start _)
 rw [Nat.zero_add] at e
 rw [unf, if_pos (by rw [ByteArray.size_append]; exact hs), e]
 exact ⟨_, rfl, fun hr => unf_nil hr⟩
theorem unf_torn {l : List ByteArray} {Y : ByteArray} (h : framesOk l = true) (hs : (framesT l).size + Y.size ≤ 300000) (hl : (unf (framesT l ++ Y)).1.length = l.length) : unf (framesT l ++ Y) = (l, (framesT l).size) := by
 obtain ⟨r, h1, h2⟩ := unf_tail h hs
 have hr : r = [] := List.eq_nil_of_length_eq_zero (by rw [h1, List.length_append] at hl; omega)
 rw [hr, List.append_nil] at h1
 exact Prod.ext h1 (h2 hr)
def tornT (b : BrokerD) (k : Nat) (Y : ByteArray) : List ByteArray := (diskT b).set k (framesOut (fileT b k) ++ Y)
theorem file_frames {b : BrokerD} (hB : brokerB b = true) (f : Nat) : framesOk (fileT b f) = true ∧ framesOut (fileT b f) = framesT (fileT b f) ∧ (framesT (fileT b f)).size ≤ 260000 := by
 obtain ⟨hw, h0, hE, h1, hR, _, h2, hH⟩ := broker_parts hB
 have hl := file_len h0 h1 h2 f
 have hf := file_fits hE hR hH f
 obtain ⟨fk, fs⟩ := frames_ok hl hf
 refine ⟨fk, framesOut_yes fk, ?_⟩
 rw [← framesOut_yes fk, fs]
 have := offT_le (l := fileT b f) (m := 500) (fun t ht => (hf t ht).2)
 omega
theorem torn_again {b : BrokerD} (hB : brokerB b = true) {k : Nat} (hk : k < 3) {Y : ByteArray} (hY : Y.size ≤ 2000) (h0 : 0 < Y.size) (hl : (unf (framesOut (fileT b k) ++ Y)).1.length = (fileT b k).length) :
 reB b.width (tornT b k Y) = b ∧ reCode b.width (tornT b k Y) = 0 ∧ dmgs 0 (tornT b k Y) = [(k, (framesOut (fileT b k)).size)] := by
 obtain ⟨f1, f2, f3⟩ := file_frames hB k
 rw [f2] at hl
 have hu := unf_torn f1 (by omega) hl
 rw [← f2] at hu
 have u0 := file_unf hB 0; have u1 := file_unf hB 1; have u2 := file_unf hB 2
 have hs : (framesOut (fileT b k) ++ Y).size = (framesOut (fileT b k)).size + Y.size := ByteArray.size_append
 have d0 := dmg_whole hB 0 0; have d1 := dmg_whole hB 1 1; have d2 := dmg_whole hB 2 2
 have dk : ∀ i, dmg1 i (framesOut (fileT b k) ++ Y) = [(i, (framesOut (fileT b k)).size)] := fun i => by
  rw [dmg1, hu, if_pos (by rw [hs]; omega)]
 have hbig : (framesOut (fileT b k)).size + Y.size ≤ 300000 := by rw [f2]; omega
 obtain rfl | rfl | rfl : k = 0 ∨ k = 1 ∨ k = 2 := by omega
 · have e : tornT b 0 Y = [framesOut (fileT b 0) ++ Y, framesOut (fileT b 1), framesOut (fileT b 2)] := rfl
   obtain ⟨a, c⟩ := reB_of (l := tornT b 0 Y) hB (by show (unf (framesOut (fileT b 0) ++ Y)).1 = _; rw [hu, fileT_0]) (by show (unf (framesOut (fileT b 1))).1 = _; rw [u1.1, fileT_1]) (by show (unf (framesOut (fileT b 2))).1 = _; rw [u2.1, fileT_2]) (by rw [e]; simp [diskOk, fileOk, hbig, u1.2, u2.2])
   exact ⟨a, c, by rw [e]; simp [dmgs, dk, d1, d2]⟩
 · have e : tornT b 1 Y = [framesOut (fileT b 0), framesOut (fileT b 1) ++ Y, framesOut (fileT b 2)] := rfl
   obtain ⟨a, c⟩ := reB_of (l := tornT b 1 Y) hB (by show (unf (framesOut (fileT b 0))).1 = _; rw [u0.1, fileT_0]) (by show (unf (framesOut (fileT b 1) ++ Y)).1 = _; rw [hu, fileT_1]) (by show (unf (framesOut (fileT b 2))).1 = _; rw [u2.1, fileT_2]) (by rw [e]; simp [diskOk, fileOk, hbig, u0.2, u2.2])
   exact ⟨a, c, by rw [e]; simp [dmgs, dk, d0, d2]⟩
 · have e : tornT b 2 Y = [framesOut (fileT b 0), framesOut (fileT b 1), framesOut (fileT b 2) ++ Y] := rfl
   obtain ⟨a, c⟩ := reB_of (l := tornT b 2 Y) hB (by show (unf (framesOut (fileT b 0))).1 = _; rw [u0.1, fileT_0]) (by show (unf (framesOut (fileT b 1))).1 = _; rw [u1.1, fileT_1]) (by show (unf (framesOut (fileT b 2) ++ Y)).1 = _; rw [hu, fileT_2]) (by rw [e]; simp [diskOk, fileOk, hbig, u0.2, u1.2])
   exact ⟨a, c, by rw [e]; simp [dmgs, dk, d0, d1]⟩
def fsA (F : Nat → ByteArray) (k : Nat) : Array Value := #[.string (if 0 < k then F 0 else ⟨#[]⟩), .string (if 1 < k then F 1 else ⟨#[]⟩), .string (if 2 < k then F 2 else ⟨#[]⟩)]
theorem fsA_three (F : Nat → ByteArray) : fsA F 3 = #[.string (F 0), .string (F 1), .string (F 2)] := rfl
theorem fsA_zero (F : Nat → ByteArray) : fsA F 0 = #[.string ⟨#[]⟩, .string ⟨#[]⟩, .string ⟨#[]⟩] := rfl
theorem fsA_next (F : Nat → ByteArray) {k : Nat} (hk : k < 3) : (fsA F k).setIfInBounds k (.string (F k)) = fsA F (k + 1) := by
 obtain rfl | rfl | rfl : k = 0 ∨ k = 1 ∨ k = 2 := by omega
 all_goals rfl
theorem fsA_at (F : Nat → ByteArray) {k : Nat} (hk : k < 3) : (fsA F k)[k]? = some (.string ⟨#[]⟩) := by
 obtain rfl | rfl | rfl : k = 0 ∨ k = 1 ∨ k = 2 := by omega
 all_goals rfl
def txV (v0 v1 v2 : Value) (k : Nat) : Value := if k = 0 then v0 else if k = 1 then v1 else v2
theorem diskB_any (b : BrokerD) (g : Nat) (A0 : Option Addr) (a0 : Nat) (A1 : Option Addr) (a1 : Nat) (A2 : Option Addr) (a2 : Nat) (A3 : Option Addr) (a3 : Nat) (A4 : Option Addr) (a4 : Nat) (w : World) (hb : Blk w g 37 (brkV b A0 a0 A1 a1 A2 a2 A3 a3 A4 a4).toArray) (s : BArg AnyB w b A0 a0 A1 a1 A2 a2 A3 a3 A4 a4) (hB : brokerB b = true) :
 Calls Tryz.prog 47 #[.pointer (some ⟨g, 0, none⟩)] w fun e w' => ∃ q, e = .returned (.agg #[.slice (some ⟨q, 0, none⟩) 3 3]) ∧ w.heap.size ≤ q ∧ Blk w' q 9 #[.string (framesOut (fileT b 0)), .string (framesOut (fileT b 1)), .string (framesOut (fileT b 2))] ∧ Ext w w' := by
 have K0 := hU (Blk.new w 40 #[.slice none 0 0])
 have He := hU (Ext.new (Below.refl w.heap.size w) (.cells #[.slice none 0 0] 40))
 have TX := hU (fun (W : World) (h : Ext w W) => texts_any b g A0 a0 A1 a1 A2 a2 A3 a3 A4 a4 W (hb.ext h) (s.ext h) (tx_right hB))
 have hf := file_frames hB
 obtain ⟨F, hF⟩ : ∃ F : Nat → ByteArray, F = fun k => framesOut (fileT b k) := ⟨_, rfl⟩
 have FL : ∀ (k : Nat), (fileT b k).length ≤ 512 ∧ ∀ T ∈ fileT b k, T.size ≤ 500 := fun k => by
  obtain ⟨hw, h0, hE, h1, hR, _, h2, hH⟩ := broker_parts hB
  exact ⟨file_len h0 h1 h2 k, fun T hT => (file_fits hE hR hH k T hT).2⟩
 have CF0 : Hid (∀ (k : Nat) (A : Option Addr) (c : Nat) (W : World), ReadsL W W.heap.size sone 1 A (fileT b k) → Calls Tryz.prog 115 #[.slice A (fileT b k).length c] W fun e w' => e = .returned (.tuple #[.string (F k), .bool true]) ∧ Ext W w') := hU (fun k A c W h => by
  have h2 := implFrames_any A c (fileT b k) W h (by have := (FL k).1; omega) (fun T hT => by have := (FL k).2 T hT; unfold maxLen; omega)
  rw [(hf k).1] at h2
  rw [hF]; exact h2)
 have GOAL : #[.string (framesOut (fileT b 0)), .string (framesOut (fileT b 1)), .string (framesOut (fileT b 2))] = fsA F 3 := by rw [fsA_three, hF]
 rw [GOAL]
 have l0 : (textsE b) = fileT b 0 := (fileT_0 b).symm
 have l1 : (textsH b) = fileT b 1 := (fileT_1 b).symm
 have l2 : (textsR b) = fileT b 2 := (fileT_2 b).symm
 rw [l0, l1, l2] at TX
 clear hf FL GOAL l0 l1 l2 hF s hb hB
 go_enter Tryz.func47, Tryz.ntmps47
 go_wp2_with fail
 refine (DiskNew_any _).mono ?_
 rintro e w1 ⟨q, rfl, hq, kq, h1⟩
 have k0 := K0.out.ext h1; have he := He.out.next h1
 clear h1 K0 He
 have hq0 : w.heap.size ≤ q := by simp at hq; omega
 go_upto_region 2 with fail
 replace k0 := k0.alloc (.cells #[.slice (some ⟨q, 0, none⟩) 3 3] 40)
 have hql := kq.lt
 replace kq := kq.alloc (.cells #[.slice (some ⟨q, 0, none⟩) 3 3] 40)
 have kd := Blk.new w1 40 #[.slice (some ⟨q, 0, none⟩) 3 3]
 replace he := he.new (.cells #[.slice (some ⟨q, 0, none⟩) 3 3] 40)
 obtain ⟨d, hd⟩ : ∃ d, d = w1.heap.size := ⟨_, rfl⟩
 rw [← hd] at kd hql
 rw [← hd]
 clear hd
 generalize w1.alloc (.cells #[.slice (some ⟨q, 0, none⟩) 3 3] 40) = w2 at *
 go_wp2_with fail
 have kq2 := kq.lt
 refine (TX.out _ he).mono ?_
 rintro e w3 ⟨V0, c0, V1, c1, V2, c2, rfl, r0, r1, r2, h1⟩
 replace k0 := k0.ext h1; replace kq := kq.ext h1; replace kd := kd.ext h1; replace he := he.next h1
 have hq2 : q < w2.heap.size := kq2
 have rd : ∀ {A : Option Addr} {n c : Nat} {ts : List ByteArray} {W : World}, RowT w2.heap.size w3 (.slice A n c) ts → ExtBut q w3 W → ReadsL W W.heap.size sone 1 A ts := fun {A n c ts W} h hx => by
  obtain ⟨A', c', e, hs⟩ := slf_own (ownsRow_but h hx hq2)
  cases e
  exact hs.reads
 have CF : Hid (∀ (k : Nat), k < 3 → ∀ (W : World), ExtBut q w3 W → Calls Tryz.prog 115 #[txV (.slice V0 (fileT b 0).length c0) (.slice V1 (fileT b 1).length c1) (.slice V2 (fileT b 2).length c2) k] W fun e w' => e = .returned (.tuple #[.string (F k), .bool true]) ∧ Ext W w') := hU (fun k hk W h => by
  obtain rfl | rfl | rfl : k = 0 ∨ k = 1 ∨ k = 2 := by omega
  · exact CF0.out 0 V0 c0 W (rd r0 h)
  · exact CF0.out 1 V1 c1 W (rd r1 h)
  · exact CF0.out 2 V2 c2 W (rd r2 h))
 clear h1 TX CF0 rd r0 r1 r2
 obtain ⟨v0, hv0⟩ : ∃ v, v = Value.slice V0 (fileT b 0).length c0 := ⟨_, rfl⟩
 obtain ⟨v1, hv1⟩ : ∃ v, v = Value.slice V1 (fileT b 1).length c1 := ⟨_, rfl⟩
 obtain ⟨v2, hv2⟩ : ∃ v, v = Value.slice V2 (fileT b 2).length c2 := ⟨_, rfl⟩
 rw [← hv0, ← hv1, ← hv2] at CF
 rw [← hv0, ← hv1, ← hv2]
 clear hv0 hv1 hv2
 go_wp2_with fail
 have G0 := hU k0; have GQ := hU (show Blk w3 q 9 (fsA F 0) by rw [fsA_zero]; exact kq); have GD := hU kd; have GE := hU he
 clear k0 kq kd he
 have hqw : w.heap.size < q := by simp at hq; omega
 go_loopw [9] (fun i wr => ∃ k : Nat, k ≤ 3 ∧ i = .int .i64 k ∧ Blk wr d 40 #[.slice (some ⟨q, 0, none⟩) 3 3] ∧ Blk wr q 9 (fsA F k) ∧ Blk wr w.heap.size 40 #[.slice none 0 0] ∧ ExtBut q w3 wr ∧ Ext w wr) (fun i _ => 3 - (intOf i).toNat)
 case atStart => exact ⟨0, Nat.zero_le _, rfl, GD.out, GQ.out, G0.out, ExtBut.refl _ _, GE.out⟩
 case round =>
  clear G0 GQ GD GE
  obtain ⟨k, hk, rfl, kd, kq, k0, h3, he⟩ := hrel
  by_cases hlt : k < 3
  case neg =>
   obtain rfl : k = 3 := by omega
   obtain ⟨r1, f1⟩ := kd.rules
   obtain ⟨r0, f0⟩ := k0.rules
   have hz := k0.put 0 [.slice (some ⟨q, 0, none⟩) 3 3] #[.slice (some ⟨q, 0, none⟩) 3 3] (by simp) rfl
   have hx := ext_setCells (W := w) (g := w.heap.size) (Nat.le_refl _) [.slice (some ⟨q, 0, none⟩) 3 3] 0 _ he
   have hy := kq.farCells (g' := w.heap.size) (by omega) [.slice (some ⟨q, 0, none⟩) 3 3] 0
   have Z := hU hz; have X := hU hx; have Y := hU hy
   clear hz hx hy kd kq k0
   go_wp2_with fail
   exact ret_row rfl rfl Z.out Tryz.underlying40 rfl (by kernel_rfl) rfl ⟨_, rfl, hq0, Y.out, X.out⟩
  have IX0 : ∀ W : World, (Instr.index 112 (.agg #[v0, v1, v2]) (.int .i64 0)).run Tryz.prog W = .ok v0 W := fun _ => by kernel_rfl
  have IX1 : ∀ W : World, (Instr.index 112 (.agg #[v0, v1, v2]) (.int .i64 1)).run Tryz.prog W = .ok v1 W := fun _ => by kernel_rfl
  have IX2 : ∀ W : World, (Instr.index 112 (.agg #[v0, v1, v2]) (.int .i64 2)).run Tryz.prog W = .ok v2 W := fun _ => by kernel_rfl
  obtain ⟨tx, htx⟩ : ∃ tx, tx = txV v0 v1 v2 k := ⟨_, rfl⟩
  have IX : ∀ W : World, (Instr.index 112 (.agg #[v0, v1, v2]) (.int .i64 (k : Int))).run Tryz.prog W = .ok tx W := by
   intro W
   rw [htx]
   obtain rfl | rfl | rfl : k = 0 ∨ k = 1 ∨ k = 2 := by omega
   · exact IX0 W
   · exact IX1 W
   · exact IX2 W
  have CK := hU (CF.out k hlt)
  rw [← htx] at CK
  clear htx
  have hk3 : (k : Int) < 3 := by omega
  go_upto_region 5 with fail
  clear IX IX0 IX1 IX2
  obtain ⟨T, hT⟩ : ∃ T, T = F k := ⟨_, rfl⟩
  rw [← hT] at CK
  have HT := hU hT
  clear hT
  refine wp_region_held_drew (S := fun w' => Blk w' d 40 #[.slice (some ⟨q, 0, none⟩) 3 3] ∧ Blk w' w.heap.size 40 #[.slice none 0 0] ∧ ExtBut q w3 w' ∧ Ext w w') (by kernel_rfl) ⟨kd.drew, k0.drew, h3.drewN 1, he.drew⟩ (fun hH => ?_)
  have KQ := hU kq.drew
  clear kd kq k0 he h3
  generalize wr.drew = wd at *
  refine takeQ 0 (.pointer (some ⟨d, 0, none⟩)) (some 14) rfl rfl (by kernel_rfl) (Or.inl ⟨by rfl, ?y0⟩) hH ?r0
  case y0 => intro w' hS'; go_simp; try with_reducible rfl
  try simp only [zA]
  refine takeQ 1 (.slice (some ⟨q, 0, none⟩) 3 3) (some 15) rfl rfl (by kernel_rfl) (Or.inl ⟨by rfl, ?y1⟩) hH ?r1
  case y1 => intro w' hS'; obtain ⟨r1, f1⟩ := hS'.1.rules; go_simp; try with_reducible rfl
  try simp only [zA]
  refine takeQ 2 (.int .i64 (k : Int)) (some 16) rfl rfl (by kernel_rfl) (Or.inl ⟨by rfl, ?y2⟩) hH ?r2
  case y2 => intro w' hS'; go_simp; try with_reducible rfl
  try simp only [zA]
  refine takeQ 3 (tx) (some 17) rfl rfl (by kernel_rfl) (Or.inl ⟨by rfl, ?y3⟩) hH ?r3
  case y3 => intro w' hS'; go_simp; try with_reducible rfl
  try simp only [zA]
  refine oneH 4 (oi := _) (some 18) (by kernel_rfl) rfl rfl rfl (fun K' hK => ?_)
  refine ⟨?_⟩
  rw [if_pos (by rfl)]
  go_simp
  refine (CK.out _ hH.2.2.1).mono ?_
  rintro e w4 ⟨rfl, h1⟩
  refine hK.out _ _ ⟨_, rfl⟩ ⟨hH.1.ext h1, hH.2.1.ext h1, hH.2.2.1.next (ExtBut.of_ext h1), hH.2.2.2.next h1⟩ (fun hH2 => ?_)
  replace KQ := hU (KQ.out.ext h1)
  clear hK K' hH h1
  refine takeQ 5 (.tuple #[.string T, .bool true]) (some 13) rfl rfl (by kernel_rfl) (Or.inl ⟨by rfl, ?y5⟩) hH2 ?r5
  case y5 => intro w' hS'; go_simp; try with_reducible rfl
  try simp only [zA]
  refine takeQ 6 (.string T) (some 19) rfl rfl (by kernel_rfl) (Or.inl ⟨by rfl, ?y6⟩) hH2 ?r6
  case y6 => intro w' hS'; go_simp; try with_reducible rfl
  try simp only [zA]
  refine takeQ 7 (.bool true) (some 20) rfl rfl (by kernel_rfl) (Or.inl ⟨by rfl, ?y7⟩) hH2 ?r7
  case y7 => intro w' hS'; go_simp; try with_reducible rfl
  try simp only [zA]
  refine takeQ 8 (.pointer (some ⟨q, k, none⟩)) (some 21) rfl rfl (by kernel_rfl) (Or.inl ⟨by rfl, ?y8⟩) hH2 ?r8
  case y8 => intro w' hS'; go_simp; try with_reducible rfl
  try simp only [zA]
  refine oneH 9 (oi := _) none (by kernel_rfl) rfl rfl rfl (fun K' hK => ?_)
  obtain ⟨s0, s2, s3, s4⟩ := hH2
  have s1 := KQ.out
  have c2 : w4.cell? ⟨q, k, none⟩ = some (.string ⟨#[]⟩) := by
   rw [s1.cell]; exact fsA_at F hlt
  have c3 := s1.frozen k
  have s1' : Blk (w4.setCell ⟨q, k, none⟩ (.string T)) q 9 (fsA F (k + 1)) := by
   have := s1.set_ k (.string T)
   rw [HT.out] at this ⊢
   rw [fsA_next F hlt] at this
   exact this
  have hdq : d ≠ q := by omega
  have FF := hK.out { tmps := _, defers := _ } (w4.setCell ⟨q, k, none⟩ (.string T)) ⟨undef, rfl⟩ ⟨s0.far (p := ⟨q, k, none⟩) hdq _, s2.far (p := ⟨q, k, none⟩) (by show w.heap.size ≠ q; omega) _, ExtBut.set_ s3 k _, Below.setCell s4 (p := ⟨q, k, none⟩) (by show w.heap.size ≤ q; omega) _⟩
  refine ⟨?_⟩
  rw [if_pos (by rfl)]
  go_simp
  refine FF (fun hH3 => ?_)
  have K5 := hU s1'
  clear FF hK K' s0 s1 s2 s3 s4 c2 c3 s1' KQ
  generalize w4.setCell ⟨q, k, none⟩ (.string T) = w5 at *
  refine wpAnyH_done (by kernel_rfl) ?_ _
  try simp only [zA]
  go_wp2_with fail
  go_roundw
  case rel => exact ⟨k + 1, by omega, by go_num, hH3.1, K5.out, hH3.2.1, hH3.2.2.1, hH3.2.2.2⟩
  case measure => simp [intOf]; omega
theorem DiskOf_any {p : Nat → Prop} (b : BrokerD) (M : List Value) (w : World) (hm : BRdL p b M w) (hB : brokerB b = true) :
 Calls Tryz.prog 10 #[.agg M.toArray] w fun e w' => ∃ q, e = .returned (.tuple #[.agg #[.slice (some ⟨q, 0, none⟩) 3 3], .bool true]) ∧ w.heap.size ≤ q ∧ Blk w' q 9 #[.string (framesOut (fileT b 0)), .string (framesOut (fileT b 1)), .string (framesOut (fileT b 2))] ∧ Ext w w' := by
 have tx := tx_right hB
 have HM13 := hU hm.len
 obtain ⟨X0, x0, X1, x1, X2, x2, X3, x3, X4, x4, hM, s⟩ := hm
 have s := s.any
 have BOK := hU (fun (W : World) (hW : Ext w W) => implBrokerOk_any b X0 x0 X1 x1 X2 x2 X3 x3 X4 x4 W (s.ext hW).e (s.ext hW).r (s.ext hW).h (s.ext hW).u (s.ext hW).v tx.e tx.r tx.n.u tx.n.v)
 have DK := hU (fun (g : Nat) (W : World) (hW : Ext w W) (hb : Blk W g 37 (brkV b X0 x0 X1 x1 X2 x2 X3 x3 X4 x4).toArray) => diskB_any b g X0 x0 X1 x1 X2 x2 X3 x3 X4 x4 W hb (s.ext hW) hB)
 rw [← hM] at BOK DK
 rw [hB] at BOK
 obtain ⟨FS, hFS⟩ : ∃ FS : Array Value, FS = #[.string (framesOut (fileT b 0)), .string (framesOut (fileT b 1)), .string (framesOut (fileT b 2))] := ⟨_, rfl⟩
 rw [← hFS] at DK
 rw [← hFS]
 clear hM s tx hB hFS
 obtain ⟨B1, B2, he⟩ := two_new w M.toArray #[.slice none 0 0] 37 40
 obtain ⟨g1, hg1⟩ : ∃ g1, g1 = w.heap.size := ⟨_, rfl⟩
 obtain ⟨g2, hg2⟩ : ∃ g2, g2 = w.heap.size + 1 := ⟨_, rfl⟩
 go_enter Tryz.func10, Tryz.ntmps10
 go_upto_region 1 with fail
 obtain ⟨w3, hw3⟩ : ∃ w3, w3 = (w.alloc (.cells M.toArray 37)).alloc (.cells #[.slice none 0 0] 40) := ⟨_, rfl⟩
 rw [← hw3] at B1 B2 he
 rw [← hw3]
 rw [← hg2] at B2
 rw [← hg1] at B1
 rw [← hg2, ← hg1]
 have hw : w.heap.size ≤ g2 := by omega
 clear hw3 hg1 hg2
 have RX := hU (Blk.range B1)
 go_wp2_with (refine wpList_load_mid rfl 37 _ rfl g1 0 rfl M _ RX.out Tryz.underlying37 rfl (by rw [HM13.out]; kernel_rfl) ?_)
 refine (BOK.out _ he).mono ?_
 rintro e w4 ⟨rfl, h1⟩
 replace he := he.next h1; replace B1 := B1.ext h1; replace B2 := B2.ext h1
 clear h1 RX BOK
 have D4 := hU (DK.out g1 w4 he B1)
 have hs4 := he.size
 have h2l := B2.lt
 clear DK B1
 go_wp2_with fail
 refine D4.out.mono ?_
 rintro e w5 ⟨q, rfl, hq, kq, h1⟩
 replace B2 := B2.ext h1; replace he := he.next h1
 have Z1 := hU (B2.put 0 [.slice (some ⟨q, 0, none⟩) 3 3] #[.slice (some ⟨q, 0, none⟩) 3 3] (by simp) rfl)
 have Z2 := hU (kq.farCells (g' := g2) (by omega) [.slice (some ⟨q, 0, none⟩) 3 3] 0)
 have Z3 := hU (ext_setCells (W := w) hw [.slice (some ⟨q, 0, none⟩) 3 3] 0 _ he)
 obtain ⟨r0, f0⟩ := B2.rules
 have hqw : w.heap.size ≤ q := by omega
 clear h1 kq he B2 D4
 go_wp2_with fail
 exact ret_row_tmp rfl rfl Z1.out Tryz.underlying40 rfl (by kernel_rfl) rfl ⟨q, rfl, hqw, Z2.out, Z3.out⟩
end Go.Proofs.YtgeengkdgdjcjaaGreat
