/-
  CtkLw: No condition.
-/
import Derived.Test.YtgeengkdgdjcjaaGreatMem
import Derived.Test.YtgeengkdgdjcjaaGreatPutA
import Derived.Test.YtgeengkdgdjcjaaGreatDiskW
import Derived.Test.YtgeengkdgdjcjaaGreatGrowB
namespace Go.Proofs.YtgeengkdgdjcjaaGreat
set_option maxHeartbeats 16000000
set_option maxRecDepth 100000
set_option linter.unusedSimpArgs false
open Go.RowKit Go.WideShapes Go.ChangeAt
set_option linter.unusedVariables false
def wasT (b : BrokerD) (k : Nat) : ByteArray := framesOut (fileT b k)
def fsC (b : BrokerD) : Array Value := #[.string (framesOut (fileT b 0)), .string (framesOut (fileT b 1)), .string (framesOut (fileT b 2))]
theorem OwnS_form {w w' : World} {v : Value} {l : List ByteArray} (h : OwnS w w' v l) : ∃ A c, v = .slice A l.length c := by
 obtain ⟨A, c, e, _⟩ := ownsRow_form h
 exact ⟨A, c, e⟩
theorem fsC_at (b : BrokerD) {k : Nat} (hk : k < 3) : (fsC b)[k]? = some (.string (wasT b k)) := by
 obtain rfl | rfl | rfl : k = 0 ∨ k = 1 ∨ k = 2 := by omega
 all_goals rfl
theorem torn_len (b : BrokerD) (k : Nat) (Y : ByteArray) : (tornT b k Y).length = 3 := by simp [tornT, diskT]
theorem torn_cells (b : BrokerD) {k : Nat} (hk : k < 3) (Y : ByteArray) : (fsC b).setIfInBounds k (.string (wasT b k ++ Y)) = ((tornT b k Y).map Value.string).toArray := by
 obtain rfl | rfl | rfl : k = 0 ∨ k = 1 ∨ k = 2 := by omega
 all_goals rfl
theorem torn_at (b : BrokerD) {k : Nat} (hk : k < 3) (Y : ByteArray) : (tornT b k Y)[k]? = some (wasT b k ++ Y) := by
 obtain rfl | rfl | rfl : k = 0 ∨ k = 1 ∨ k = 2 := by omega
 all_goals rfl
theorem torn_back (b : BrokerD) {k : Nat} (hk : k < 3) (Y : ByteArray) : (tornT b k Y).set k (wasT b k) = diskT b := by
 obtain rfl | rfl | rfl : k = 0 ∨ k = 1 ∨ k = 2 := by omega
 all_goals rfl
theorem cut_back (W Y : ByteArray) : (W ++ Y).extract 0 W.size ++ (⟨#[]⟩ : ByteArray) = W := by
 have z : ∀ X : ByteArray, X ++ (⟨#[]⟩ : ByteArray) = X := fun X => by apply ByteArray.ext; rw [ByteArray.data_append]; exact Array.append_empty
 rw [z, cut_two, extract_all (Nat.le_refl _), Nat.sub_self]
 have e : Y.extract 0 0 = ⟨#[]⟩ := by apply ByteArray.ext; simp [ByteArray.data_extract]
 rw [e, z]
theorem was_size {b : BrokerD} (hB : brokerB b = true) (k : Nat) : (wasT b k).size ≤ 260000 := by
 obtain ⟨f1, f2, f3⟩ := file_frames hB k
 rw [wasT, f2]; exact f3
theorem torn_ok {b : BrokerD} (hB : brokerB b = true) {k : Nat} (hk : k < 3) {Y : ByteArray} (hY : Y.size ≤ 2000) : diskOk (tornT b k Y) = true ∧ ∀ x ∈ tornT b k Y, x.size ≤ 300000 := by
 have hs := was_size hB k
 have f : ∀ x ∈ tornT b k Y, x.size ≤ 300000 := fun x hx => by
  have hx := List.mem_or_eq_of_mem_set hx
  rcases hx with hx | rfl
  · have f0 := (file_unf hB 0).2; have f1 := (file_unf hB 1).2; have f2 := (file_unf hB 2).2
    simp only [diskT, List.mem_cons, List.not_mem_nil, or_false] at hx
    rcases hx with rfl | rfl | rfl <;> assumption
  · rw [ByteArray.size_append]; unfold wasT at hs; omega
 refine ⟨?_, f⟩
 rw [diskOk, torn_len]
 simp only [beq_self_eq_true, Bool.true_and, List.all_eq_true]
 exact fun x hx => by rw [fileOk]; exact decide_eq_true (f x hx)
theorem again_T {b : BrokerD} (hB : brokerB b = true) {k : Nat} (hk : k < 3) {Y : ByteArray} (hY : Y.size ≤ 2000) (h0 : 0 < Y.size) (hl : (unf (wasT b k ++ Y)).1.length = (fileT b k).length) :
 reBB b.width (tornT b k Y) = b ∧ reW b.width (tornT b k Y) = [⟨(k : Int), ((wasT b k).size : Int), ⟨#[]⟩⟩] ∧ reCode b.width (tornT b k Y) = 0 := by
 obtain ⟨h1, h2, h3⟩ := torn_again hB hk hY h0 hl
 refine ⟨by rw [reBB, if_pos h2, h1], ?_, h2⟩
 rw [reW, if_pos h2, h3]; rfl
theorem lawCutKeeps_walk (A : Option Addr) (c : Nat) (l : List Int) (w : World) (hlen : l.length ≤ maxLen) (hin : ∀ x ∈ l, ByteIn x) (hr : ReadsL w w.heap.size byteC 1 A l) :
 Calls Tryz.prog 3 #[.slice A l.length c] w fun e w' => e = .returned (.bool true) ∧ Ext w w' := by
 by_cases hb : 1048576 < l.length
 · have hd : decide (1048576 < l.length) = true := decide_eq_true hb
   go_enter Tryz.func3, Tryz.ntmps3
   go_wp2_with (go_at_call 8; refine (big9_any _ _ _ _ hlen).mono ?_; rintro e w' ⟨rfl, rfl⟩; rw [hd])
   go_ret
   exact ⟨rfl, Below.refl _ _⟩
 have hd : decide (1048576 < l.length) = false := decide_eq_false hb
 have Hr := hU hr; clear hr
 have Hin := hU hin; clear hin
 go_enter Tryz.func3, Tryz.ntmps3
 go_wp2_with (go_at_call 8; refine (big9_any _ _ _ _ hlen).mono ?_; rintro e w' ⟨rfl, rfl⟩; rw [hd])
 refine (DrawRight_any A c l _ hlen Hin.out Hr.out).mono ?_
 rintro e w1 ⟨b, M, hB, rfl, hv, he⟩
 have KZ := Blk.new w1 37 #[.int .i64 0, .slice none 0 0, .slice none 0 0, .slice none 0 0, .int .i64 0, .slice none 0 0, .int .i64 0, .slice none 0 0, .int .i64 0, .int .i64 0, .string ⟨#[]⟩, .int .i64 0, .string ⟨#[]⟩]
 obtain ⟨w2, hwa, K3, hx2⟩ : ∃ wa, wa = (w1.alloc (.cells #[.int .i64 0, .slice none 0 0, .slice none 0 0, .slice none 0 0, .int .i64 0, .slice none 0 0, .int .i64 0, .slice none 0 0, .int .i64 0, .int .i64 0, .string ⟨#[]⟩, .int .i64 0, .string ⟨#[]⟩] 37)).setCells w1.heap.size 0 M ∧ Blk wa w1.heap.size 37 M.toArray ∧ Ext w1 wa := ⟨_, rfl, put_whole KZ M (by rw [hv.len]; rfl), ext_setCells (W := w1) (Nat.le_refl _) M 0 _ (Ext.new (Below.refl _ _) _)⟩
 have T4 := hU (show World.there (w1.alloc (.cells #[.int .i64 0, .slice none 0 0, .slice none 0 0, .slice none 0 0, .int .i64 0, .slice none 0 0, .int .i64 0, .slice none 0 0, .int .i64 0, .int .i64 0, .string ⟨#[]⟩, .int .i64 0, .string ⟨#[]⟩] 37)) w1.heap.size 0 M.length by rw [hv.len]; exact KZ.there 0 13 (by simp)); have HW := hU hwa
 have HX13 := hU hv.len; have HX1 := hU hv.one
 have hs1 := he.size
 clear hwa KZ
 replace hv := hv.ext hx2; replace he := he.next hx2
 go_upto_region 4 with (refine wpList_store_list rfl 37 _ _ rfl rfl w1.heap.size 0 M rfl rfl T4.out (by rw [HX13.out]; kernel_rfl) HX1.out ?_; rw [← HW.out])
 obtain ⟨g3, hg3⟩ : ∃ g3, g3 = w1.heap.size := ⟨_, rfl⟩
 rw [← hg3] at K3
 rw [← hg3]
 have hg3w : w.heap.size ≤ g3 := by omega
 clear T4 HW HX1 hx2 hg3 hs1 hd hb
 have hz := (tx_right hB).n
 have DO := hU (fun (W : World) (p : Nat → Prop) (h : BRdL p b M W) => DiskOf_any b M W h hB)
 have SB := hU (fun (N : List Value) (p q : Nat → Prop) (W : World) (h1 : BRdL p b N W) (h2 : BRdL q b M W) => sameBroker_same b N M W h1 h2 hz)
 obtain ⟨wd, hwd⟩ : ∃ wd, wd = b.width := ⟨_, rfl⟩
 have BH : ∀ (W : World), Blk W g3 37 M.toArray → W.cell? ⟨g3, 0, none⟩ = some (.int .i64 wd) := fun W h => by
  obtain ⟨X0, x0, X1, x1, X2, x2, X3, x3, X4, x4, hM, _, _⟩ := hv
  rw [hM] at h
  rw [hwd]
  exact h.cell 0
 have BH := hU BH
 have HWD := hU hwd
 have HB := hU hB
 have HV := hU hv; have HE := hU he; have K3H := hU K3
 have h3l := K3.lt
 clear hz hB hv he K3 hwd
 have RX := hU (Blk.range K3H.out)
 go_wp2_with (refine wpList_load_mid rfl 37 _ rfl g3 0 rfl M _ RX.out Tryz.underlying37 rfl (by rw [HX13.out]; kernel_rfl) ?_)
 refine (DO.out _ _ HV.out.rd).mono ?_
 rintro e w3 ⟨q, rfl, hq, kq, h1⟩
 have hx2 := Ext.new (Below.refl w3.heap.size w3) (.cells #[.slice (some ⟨q, 0, none⟩) 3 3] 40)
 have K4 := Blk.new w3 40 #[.slice (some ⟨q, 0, none⟩) 3 3]
 have hql := kq.lt
 have KQ := hU (show Blk _ q 9 (fsC b) from kq.ext hx2)
 have EX := hU (h1.next hx2)
 clear h1 hx2 kq DO RX
 go_upto_region 5 with fail
 obtain ⟨g4, hg4⟩ : ∃ g4, g4 = w3.heap.size := ⟨_, rfl⟩
 rw [← hg4] at K4 hql
 rw [← hg4]
 clear hg4
 generalize w3.alloc (.cells #[.slice (some ⟨q, 0, none⟩) 3 3] 40) = w4 at *
 have K4H := hU K4
 clear K4
 have DP := hU (fun (W : World) (h : Ext w W) => DrawPlaces_any A c l W hlen Hin.out (Hr.out.ext h))
 have DF := hU (fun (W : World) (h : Ext w W) => DrawFrame_any A c l W hlen Hin.out (Hr.out.ext h))
 clear Hr Hin
 go_wp2_with fail
 refine (DP.out _ (HE.out.next EX.out)).mono ?_
 rintro e w5 ⟨vp, xs, rfl, hxl, hxb, ho, h1⟩
 obtain ⟨VP, cp, rfl, _⟩ := ownsRow_form ho
 obtain ⟨bp, op, rfl, hbp, hcp⟩ := Reads.at_ (Reads.of_own ho) (k := 0) (by decide)
 obtain ⟨x, hx⟩ : ∃ x, xs[0]? = some x := ⟨_, List.getElem?_eq_getElem (by omega)⟩
 have hxr := hxb x (List.mem_of_getElem? hx)
 have px : w5.cell? ⟨bp, op, none⟩ = some (.int .i64 x) := by
  have := hcp 0 (.int .i64 x) (by show (ivs xs)[0]? = _; rw [ivs, List.getElem?_map, hx]; rfl)
  simpa using this
 obtain ⟨n0, rfl⟩ : ∃ n0 : Nat, x = (n0 : Int) := ⟨x.toNat, by omega⟩
 obtain ⟨k, hk, hk3⟩ : ∃ k : Nat, (n0 : Int) % 3 = (k : Int) ∧ k < 3 := ⟨n0 % 3, by omega, by omega⟩
 replace EX := hU (EX.out.next h1); replace KQ := hU (KQ.out.ext h1); replace K4H := hU (K4H.out.ext h1)
 clear h1 hxl hxb ho hcp hx hxr DP
 go_upto_region 9 with fail
 rw [hk]
 clear hk px
 go_wp2_with fail
 refine (DF.out _ (HE.out.next EX.out)).mono ?_
 rintro e w6 ⟨s0, hs0, rfl, h1⟩
 replace EX := hU (EX.out.next h1); replace KQ := hU (KQ.out.ext h1); replace K4H := hU (K4H.out.ext h1)
 clear h1 DF
 by_cases c40 : 40 < s0.size
 · have i40 : (40 : Int) < (s0.size : Int) := by omega
   go_upto_region 12 with fail
   obtain ⟨Y, hYe⟩ : ∃ Y, Y = (⟨#[116, 111, 114, 110]⟩ : ByteArray) := ⟨_, rfl⟩
   have hY40 : Y.size ≤ 40 := by rw [hYe]; decide
   have hY0 : 0 < Y.size := by rw [hYe]; decide
   rw [← hYe]
   clear hYe
   have hws := was_size HB.out k
   have hk9 : (k : Int) < 3 := by omega
   have hk8 : ¬ (3 : Int) ≤ (k : Int) := by omega
   obtain ⟨T, hT⟩ : ∃ T, T = wasT b k := ⟨_, rfl⟩
   rw [← hT] at hws
   have HT := hU hT
   clear hT
   have cq : w6.cell? ⟨q, k, none⟩ = some (.string T) := by rw [HT.out]; exact (KQ.out.cell k).trans (fsC_at b hk3)
   have cf := KQ.out.frozen k
   obtain ⟨r4, f4⟩ := K4H.out.rules
   have hcat : ¬ 9223372036854775807 < T.size + Y.size := by omega
   go_upto_region 14 with fail
   have KQ7 := hU (show Blk (w6.setCell ⟨q, k, none⟩ (.string (T ++ Y))) q 9 ((tornT b k Y).map Value.string).toArray by rw [← torn_cells b hk3 Y, ← HT.out]; exact KQ.out.set_ k _)
   have K47 := hU (K4H.out.far (p := ⟨q, k, none⟩) (by show g4 ≠ q; omega) (.string (T ++ Y)))
   have EX7 := hU (show Ext w2 (w6.setCell ⟨q, k, none⟩ (.string (T ++ Y))) from Below.setCell EX.out (p := ⟨q, k, none⟩) (by show w2.heap.size ≤ q; exact hq) (.string (T ++ Y)))
   have C7 := hU (show (w6.setCell ⟨q, k, none⟩ (.string (T ++ Y))).cell? ⟨q, k, none⟩ = some (.string (T ++ Y)) by
    have h2 := KQ7.out.cell k
    rw [h2]
    have := torn_at b hk3 Y
    rw [← HT.out] at this
    simp [this])
   clear cq cf r4 f4 KQ K4H EX
   generalize w6.setCell ⟨q, k, none⟩ (.string (T ++ Y)) = w7 at *
   obtain ⟨r4, f4⟩ := K47.out.rules
   have cq := C7.out
   go_wp2_with fail
   refine (specUnframe_any (T ++ Y) _ (by rw [ByteArray.size_append]; omega)).mono ?_
   rintro e w8 ⟨v1, rfl, ho1, h1⟩
   obtain ⟨V1, c1, rfl⟩ := OwnS_form ho1
   replace KQ7 := hU (KQ7.out.ext h1); replace K47 := hU (K47.out.ext h1); replace EX7 := hU (EX7.out.next h1)
   clear h1 ho1 cq C7 r4 f4
   go_wp2_with fail
   refine (specUnframe_any T _ (by omega)).mono ?_
   rintro e w9 ⟨v2, rfl, ho2, h1⟩
   obtain ⟨V2, c2, rfl⟩ := OwnS_form ho2
   replace KQ7 := hU (KQ7.out.ext h1); replace K47 := hU (K47.out.ext h1); replace EX7 := hU (EX7.out.next h1)
   clear h1 ho2
   have UT := hU (show (unf T).1.length = (fileT b k).length by rw [HT.out, wasT, (file_unf HB.out k).1])
   obtain ⟨n1, hn1⟩ : ∃ n, n = (unf (T ++ Y)).1.length := ⟨_, rfl⟩
   obtain ⟨n2, hn2⟩ : ∃ n, n = (unf T).1.length := ⟨_, rfl⟩
   rw [← hn2] at UT
   rw [← hn1, ← hn2]
   have HN1 := hU hn1
   clear hn1 hn2
   by_cases hne : n1 = n2
   case neg =>
    have z1 : ((n1 : Int) == (n2 : Int)) = false := beq_false_of_ne (by omega)
    go_wp2_with fail
    go_ret
    exact ⟨rfl, HE.out.next EX7.out⟩
   subst hne
   obtain ⟨a1, a2, a3⟩ := again_T (Y := Y) HB.out hk3 (Nat.le_trans hY40 (by decide)) hY0 (by rw [← HT.out, ← HN1.out, UT.out])
   obtain ⟨tk, ts⟩ := torn_ok HB.out hk3 (Y := Y) (Nat.le_trans hY40 (by decide))
   have RD : Hid (∀ W : World, Blk W q 9 ((tornT b k Y).map Value.string).toArray → SlF AnyB sone 1 W (some ⟨q, 0, none⟩) (tornT b k Y) 3) := hU (fun W h => by
    refine ⟨by rw [torn_len]; exact Nat.le_refl 3, by unfold maxLen; omega, ?_, fun _ _ _ => trivial⟩
    show Reads W W.heap.size 1 (some ⟨q, 0, none⟩) (tornT b k Y).length ((tornT b k Y).flatMap sone)
    rw [flat_sone]
    exact Blk.reads h _ 1 (by simp))
   have RO : Hid (∀ (W : World), Blk W q 9 ((tornT b k Y).map Value.string).toArray → Calls Tryz.prog 14 #[.int .i64 wd, .agg #[.slice (some ⟨q, 0, none⟩) 3 3]] W fun e w' => ∃ (N : List Value) (V : Option Addr) (vc : Nat), e = .returned (.tuple #[.agg N.toArray, .slice V 1 vc, .int .i64 0]) ∧ BVal W.heap.size b N w' ∧ ReadsL w' w'.heap.size WriteD.cells 3 V [⟨(k : Int), (T.size : Int), ⟨#[]⟩⟩] ∧ Ext W w') := hU (fun W hk => by
    have h2 := implReopen_any b.width (some ⟨q, 0, none⟩) 3 (tornT b k Y) W (RD.out W hk).reads (by rw [torn_len]; decide) (fun x hx => by have := ts x hx; omega)
    rw [torn_len, ← HWD.out] at h2
    refine h2.mono ?_
    rintro e w' ⟨ve, vr, vh, v1, v2, vw, he, hr, ha, ho, hx⟩
    rw [HWD.out] at hr ho he
    rw [a1] at hr
    rw [a2, ← HT.out] at ho
    rw [a1, a3] at he
    obtain ⟨V, vc, rfl, _⟩ := ownsRow_form ho
    exact ⟨_, V, vc, he, val_of hr ha, Reads.of_own ho, hx⟩)
   have PA := hU (fun (V : Option Addr) (vc : Nat) (W : World) (h1 : Blk W q 9 ((tornT b k Y).map Value.string).toArray) (h2 : ReadsL W W.heap.size WriteD.cells 3 V [⟨(k : Int), (T.size : Int), ⟨#[]⟩⟩]) => PutAll_one q 3 k T.size (tornT b k Y) (T ++ Y) ⟨#[]⟩ V vc W (torn_len b k Y) tk (RD.out W h1) h2 hk3 (by rw [HT.out]; exact torn_at b hk3 Y) (by rw [ByteArray.size_append]; omega) (by rw [ByteArray.size_append]; omega) (by show 0 + T.size ≤ 300000; omega))
   have BK := hU (show (tornT b k Y).set k ((T ++ Y).extract 0 T.size ++ (⟨#[]⟩ : ByteArray)) = diskT b by rw [cut_back, HT.out]; exact torn_back b hk3 Y)
   rw [BK.out] at PA
   have MD : Hid (∀ (q' c' : Nat) (cur : Array Value) (W : World), Blk W q' 9 cur → cur.toList.take 3 = (diskT b).flatMap sone → Calls Tryz.prog 17 #[.int .i64 wd, .agg #[.slice (some ⟨q', 0, none⟩) 3 c']] W fun e w' => e = .returned (.bool true) ∧ Ext W w') := hU (fun q' c' cur W hk hc => by
    have hr : ReadsL W W.heap.size sone 1 (some ⟨q', 0, none⟩) (diskT b) := ⟨by rw [flat_sone]; simp, fun _ => ⟨q', 0, rfl, hk.lt, fun j u hu => by
     rw [← hc, List.getElem?_take] at hu
     split at hu
     · rw [Nat.zero_add, hk.cell]; simpa using hu
     · cases hu⟩⟩
    have h2 := implMended_any b.width (some ⟨q', 0, none⟩) c' (diskT b) W hr (show (3 : Nat) ≤ 1048576 by decide) (disk_small HB.out)
    rw [(again_W HB.out).2.2.2, ← HWD.out] at h2
    exact h2)
   clear a1 a2 a3 tk ts UT HN1 RD BK
   have K3Q := hU (K3H.out.ext EX7.out)
   have c0 := BH.out _ K3Q.out
   obtain ⟨r4, f4⟩ := K47.out.rules
   have ccn : ((n1 : Int) != (n1 : Int)) = false := by simp
   go_wp2_with fail
   refine (RO.out _ KQ7.out).mono ?_
   rintro e wa ⟨N, V, vc, rfl, hn, hw1, h1⟩
   replace KQ7 := hU (KQ7.out.ext h1); replace K47 := hU (K47.out.ext h1); replace EX7 := hU (EX7.out.next h1)
   clear h1 c0 r4 f4 K3Q RO ccn
   have KZ := Blk.new wa 37 #[.int .i64 0, .slice none 0 0, .slice none 0 0, .slice none 0 0, .int .i64 0, .slice none 0 0, .int .i64 0, .slice none 0 0, .int .i64 0, .int .i64 0, .string ⟨#[]⟩, .int .i64 0, .string ⟨#[]⟩]
   obtain ⟨wb, hwa, K14, hx2⟩ : ∃ wb, wb = (wa.alloc (.cells #[.int .i64 0, .slice none 0 0, .slice none 0 0, .slice none 0 0, .int .i64 0, .slice none 0 0, .int .i64 0, .slice none 0 0, .int .i64 0, .int .i64 0, .string ⟨#[]⟩, .int .i64 0, .string ⟨#[]⟩] 37)).setCells wa.heap.size 0 N ∧ Blk wb wa.heap.size 37 N.toArray ∧ Ext wa wb := ⟨_, rfl, put_whole KZ N (by rw [hn.len]; rfl), ext_setCells (W := wa) (Nat.le_refl _) N 0 _ (Ext.new (Below.refl _ _) _)⟩
   have T4 := hU (show World.there (wa.alloc (.cells #[.int .i64 0, .slice none 0 0, .slice none 0 0, .slice none 0 0, .int .i64 0, .slice none 0 0, .int .i64 0, .slice none 0 0, .int .i64 0, .int .i64 0, .string ⟨#[]⟩, .int .i64 0, .string ⟨#[]⟩] 37)) wa.heap.size 0 N.length by rw [hn.len]; exact KZ.there 0 13 (by simp)); have HW := hU hwa
   have N13 := hU hn.len; have N1 := hU hn.one
   have HN := hU (hn.ext hx2); have HWR := hU (hw1.ext hx2)
   replace KQ7 := hU (KQ7.out.ext hx2); replace K47 := hU (K47.out.ext hx2); replace EX7 := hU (EX7.out.next hx2)
   clear hwa KZ hx2 hn hw1
   go_upto_region 19 with (refine wpList_store_list rfl 37 _ _ rfl rfl wa.heap.size 0 N rfl rfl T4.out (by rw [N13.out]; kernel_rfl) N1.out ?_; rw [← HW.out])
   obtain ⟨g14, hg14⟩ : ∃ g14, g14 = wa.heap.size := ⟨_, rfl⟩
   rw [← hg14] at K14
   rw [← hg14]
   clear hg14 T4 HW N1
   have R14 := hU (Blk.range K14); have R3 := hU (Blk.range (K3H.out.ext EX7.out))
   clear K14
   go_wp2_with (first | (refine wpList_load_want (by rfl) 37 _ rfl g14 0 rfl N _ R14.out Tryz.underlying37 rfl (by rw [N13.out]; kernel_rfl) ?_) | (refine wpList_load_want (by rfl) 37 _ rfl g3 0 rfl M _ R3.out Tryz.underlying37 rfl (by rw [HX13.out]; kernel_rfl) ?_))
   refine (SB.out N _ _ _ HN.out.rd (HV.out.ext EX7.out).rd).mono ?_
   rintro e wc ⟨rfl, h1⟩
   replace KQ7 := hU (KQ7.out.ext h1); replace K47 := hU (K47.out.ext h1); replace EX7 := hU (EX7.out.next h1); replace HWR := hU (HWR.out.ext h1)
   clear h1 R14 R3 HN
   obtain ⟨r4, f4⟩ := K47.out.rules
   go_wp2_with fail
   refine (PA.out V vc _ KQ7.out HWR.out).mono ?_
   rintro e we ⟨q', c', cur, rfl, kq', hcur, hqq, h1⟩
   replace EX7 := hU (EX7.out.next h1)
   clear h1 r4 f4 PA KQ7 K47 HWR
   have hxe := Ext.new (Below.refl we.heap.size we) (.cells #[.slice (some ⟨q', 0, none⟩) 3 c'] 40)
   have K17 := Blk.new we 40 #[.slice (some ⟨q', 0, none⟩) 3 c']
   have KC := hU (kq'.ext hxe)
   replace EX7 := hU (EX7.out.next hxe)
   have HCU := hU hcur
   clear hxe kq' hcur
   go_upto_region 22 with fail
   obtain ⟨g17, hg17⟩ : ∃ g17, g17 = we.heap.size := ⟨_, rfl⟩
   rw [← hg17] at K17
   rw [← hg17]
   clear hg17
   generalize we.alloc (.cells #[.slice (some ⟨q', 0, none⟩) 3 c'] 40) = wf at *
   have cq : wf.cell? ⟨q', k, none⟩ = some (.string T) := by
    rw [HT.out]
    exact (KC.out.cell k).trans (cur_at HCU.out hk3 (by
     obtain rfl | rfl | rfl : k = 0 ∨ k = 1 ∨ k = 2 := by omega
     all_goals rfl))
   have c0 := BH.out _ (K3H.out.ext EX7.out)
   obtain ⟨r4, f4⟩ := K17.rules
   have TT : (T.toList == T.toList) = true := by simp
   go_wp2_with fail
   refine (MD.out q' c' cur _ KC.out HCU.out).mono ?_
   rintro e wg ⟨rfl, h1⟩
   go_wp2_with fail
   go_ret
   exact ⟨rfl, HE.out.next (EX7.out.next h1)⟩
 have i40 : ¬ (40 : Int) < (s0.size : Int) := by omega
 by_cases c0 : s0.size = 0
 · have z0 : ((s0.size : Int) == 0) = true := by rw [c0]; rfl
   go_upto_region 12 with fail
   obtain ⟨Y, hYe⟩ : ∃ Y, Y = (⟨#[116, 111, 114, 110]⟩ : ByteArray) := ⟨_, rfl⟩
   have hY40 : Y.size ≤ 40 := by rw [hYe]; decide
   have hY0 : 0 < Y.size := by rw [hYe]; decide
   rw [← hYe]
   clear hYe
   have hws := was_size HB.out k
   have hk9 : (k : Int) < 3 := by omega
   have hk8 : ¬ (3 : Int) ≤ (k : Int) := by omega
   obtain ⟨T, hT⟩ : ∃ T, T = wasT b k := ⟨_, rfl⟩
   rw [← hT] at hws
   have HT := hU hT
   clear hT
   have cq : w6.cell? ⟨q, k, none⟩ = some (.string T) := by rw [HT.out]; exact (KQ.out.cell k).trans (fsC_at b hk3)
   have cf := KQ.out.frozen k
   obtain ⟨r4, f4⟩ := K4H.out.rules
   have hcat : ¬ 9223372036854775807 < T.size + Y.size := by omega
   go_upto_region 14 with fail
   have KQ7 := hU (show Blk (w6.setCell ⟨q, k, none⟩ (.string (T ++ Y))) q 9 ((tornT b k Y).map Value.string).toArray by rw [← torn_cells b hk3 Y, ← HT.out]; exact KQ.out.set_ k _)
   have K47 := hU (K4H.out.far (p := ⟨q, k, none⟩) (by show g4 ≠ q; omega) (.string (T ++ Y)))
   have EX7 := hU (show Ext w2 (w6.setCell ⟨q, k, none⟩ (.string (T ++ Y))) from Below.setCell EX.out (p := ⟨q, k, none⟩) (by show w2.heap.size ≤ q; exact hq) (.string (T ++ Y)))
   have C7 := hU (show (w6.setCell ⟨q, k, none⟩ (.string (T ++ Y))).cell? ⟨q, k, none⟩ = some (.string (T ++ Y)) by
    have h2 := KQ7.out.cell k
    rw [h2]
    have := torn_at b hk3 Y
    rw [← HT.out] at this
    simp [this])
   clear cq cf r4 f4 KQ K4H EX
   generalize w6.setCell ⟨q, k, none⟩ (.string (T ++ Y)) = w7 at *
   obtain ⟨r4, f4⟩ := K47.out.rules
   have cq := C7.out
   go_wp2_with fail
   refine (specUnframe_any (T ++ Y) _ (by rw [ByteArray.size_append]; omega)).mono ?_
   rintro e w8 ⟨v1, rfl, ho1, h1⟩
   obtain ⟨V1, c1, rfl⟩ := OwnS_form ho1
   replace KQ7 := hU (KQ7.out.ext h1); replace K47 := hU (K47.out.ext h1); replace EX7 := hU (EX7.out.next h1)
   clear h1 ho1 cq C7 r4 f4
   go_wp2_with fail
   refine (specUnframe_any T _ (by omega)).mono ?_
   rintro e w9 ⟨v2, rfl, ho2, h1⟩
   obtain ⟨V2, c2, rfl⟩ := OwnS_form ho2
   replace KQ7 := hU (KQ7.out.ext h1); replace K47 := hU (K47.out.ext h1); replace EX7 := hU (EX7.out.next h1)
   clear h1 ho2
   have UT := hU (show (unf T).1.length = (fileT b k).length by rw [HT.out, wasT, (file_unf HB.out k).1])
   obtain ⟨n1, hn1⟩ : ∃ n, n = (unf (T ++ Y)).1.length := ⟨_, rfl⟩
   obtain ⟨n2, hn2⟩ : ∃ n, n = (unf T).1.length := ⟨_, rfl⟩
   rw [← hn2] at UT
   rw [← hn1, ← hn2]
   have HN1 := hU hn1
   clear hn1 hn2
   by_cases hne : n1 = n2
   case neg =>
    have z1 : ((n1 : Int) == (n2 : Int)) = false := beq_false_of_ne (by omega)
    go_wp2_with fail
    go_ret
    exact ⟨rfl, HE.out.next EX7.out⟩
   subst hne
   obtain ⟨a1, a2, a3⟩ := again_T (Y := Y) HB.out hk3 (Nat.le_trans hY40 (by decide)) hY0 (by rw [← HT.out, ← HN1.out, UT.out])
   obtain ⟨tk, ts⟩ := torn_ok HB.out hk3 (Y := Y) (Nat.le_trans hY40 (by decide))
   have RD : Hid (∀ W : World, Blk W q 9 ((tornT b k Y).map Value.string).toArray → SlF AnyB sone 1 W (some ⟨q, 0, none⟩) (tornT b k Y) 3) := hU (fun W h => by
    refine ⟨by rw [torn_len]; exact Nat.le_refl 3, by unfold maxLen; omega, ?_, fun _ _ _ => trivial⟩
    show Reads W W.heap.size 1 (some ⟨q, 0, none⟩) (tornT b k Y).length ((tornT b k Y).flatMap sone)
    rw [flat_sone]
    exact Blk.reads h _ 1 (by simp))
   have RO : Hid (∀ (W : World), Blk W q 9 ((tornT b k Y).map Value.string).toArray → Calls Tryz.prog 14 #[.int .i64 wd, .agg #[.slice (some ⟨q, 0, none⟩) 3 3]] W fun e w' => ∃ (N : List Value) (V : Option Addr) (vc : Nat), e = .returned (.tuple #[.agg N.toArray, .slice V 1 vc, .int .i64 0]) ∧ BVal W.heap.size b N w' ∧ ReadsL w' w'.heap.size WriteD.cells 3 V [⟨(k : Int), (T.size : Int), ⟨#[]⟩⟩] ∧ Ext W w') := hU (fun W hk => by
    have h2 := implReopen_any b.width (some ⟨q, 0, none⟩) 3 (tornT b k Y) W (RD.out W hk).reads (by rw [torn_len]; decide) (fun x hx => by have := ts x hx; omega)
    rw [torn_len, ← HWD.out] at h2
    refine h2.mono ?_
    rintro e w' ⟨ve, vr, vh, v1, v2, vw, he, hr, ha, ho, hx⟩
    rw [HWD.out] at hr ho he
    rw [a1] at hr
    rw [a2, ← HT.out] at ho
    rw [a1, a3] at he
    obtain ⟨V, vc, rfl, _⟩ := ownsRow_form ho
    exact ⟨_, V, vc, he, val_of hr ha, Reads.of_own ho, hx⟩)
   have PA := hU (fun (V : Option Addr) (vc : Nat) (W : World) (h1 : Blk W q 9 ((tornT b k Y).map Value.string).toArray) (h2 : ReadsL W W.heap.size WriteD.cells 3 V [⟨(k : Int), (T.size : Int), ⟨#[]⟩⟩]) => PutAll_one q 3 k T.size (tornT b k Y) (T ++ Y) ⟨#[]⟩ V vc W (torn_len b k Y) tk (RD.out W h1) h2 hk3 (by rw [HT.out]; exact torn_at b hk3 Y) (by rw [ByteArray.size_append]; omega) (by rw [ByteArray.size_append]; omega) (by show 0 + T.size ≤ 300000; omega))
   have BK := hU (show (tornT b k Y).set k ((T ++ Y).extract 0 T.size ++ (⟨#[]⟩ : ByteArray)) = diskT b by rw [cut_back, HT.out]; exact torn_back b hk3 Y)
   rw [BK.out] at PA
   have MD : Hid (∀ (q' c' : Nat) (cur : Array Value) (W : World), Blk W q' 9 cur → cur.toList.take 3 = (diskT b).flatMap sone → Calls Tryz.prog 17 #[.int .i64 wd, .agg #[.slice (some ⟨q', 0, none⟩) 3 c']] W fun e w' => e = .returned (.bool true) ∧ Ext W w') := hU (fun q' c' cur W hk hc => by
    have hr : ReadsL W W.heap.size sone 1 (some ⟨q', 0, none⟩) (diskT b) := ⟨by rw [flat_sone]; simp, fun _ => ⟨q', 0, rfl, hk.lt, fun j u hu => by
     rw [← hc, List.getElem?_take] at hu
     split at hu
     · rw [Nat.zero_add, hk.cell]; simpa using hu
     · cases hu⟩⟩
    have h2 := implMended_any b.width (some ⟨q', 0, none⟩) c' (diskT b) W hr (show (3 : Nat) ≤ 1048576 by decide) (disk_small HB.out)
    rw [(again_W HB.out).2.2.2, ← HWD.out] at h2
    exact h2)
   clear a1 a2 a3 tk ts UT HN1 RD BK
   have K3Q := hU (K3H.out.ext EX7.out)
   have c0 := BH.out _ K3Q.out
   obtain ⟨r4, f4⟩ := K47.out.rules
   have ccn : ((n1 : Int) != (n1 : Int)) = false := by simp
   go_wp2_with fail
   refine (RO.out _ KQ7.out).mono ?_
   rintro e wa ⟨N, V, vc, rfl, hn, hw1, h1⟩
   replace KQ7 := hU (KQ7.out.ext h1); replace K47 := hU (K47.out.ext h1); replace EX7 := hU (EX7.out.next h1)
   clear h1 c0 r4 f4 K3Q RO ccn
   have KZ := Blk.new wa 37 #[.int .i64 0, .slice none 0 0, .slice none 0 0, .slice none 0 0, .int .i64 0, .slice none 0 0, .int .i64 0, .slice none 0 0, .int .i64 0, .int .i64 0, .string ⟨#[]⟩, .int .i64 0, .string ⟨#[]⟩]
   obtain ⟨wb, hwa, K14, hx2⟩ : ∃ wb, wb = (wa.alloc (.cells #[.int .i64 0, .slice none 0 0, .slice none 0 0, .slice none 0 0, .int .i64 0, .slice none 0 0, .int .i64 0, .slice none 0 0, .int .i64 0, .int .i64 0, .string ⟨#[]⟩, .int .i64 0, .string ⟨#[]⟩] 37)).setCells wa.heap.size 0 N ∧ Blk wb wa.heap.size 37 N.toArray ∧ Ext wa wb := ⟨_, rfl, put_whole KZ N (by rw [hn.len]; rfl), ext_setCells (W := wa) (Nat.le_refl _) N 0 _ (Ext.new (Below.refl _ _) _)⟩
   have T4 := hU (show World.there (wa.alloc (.cells #[.int .i64 0, .slice none 0 0, .slice none 0 0, .slice none 0 0, .int .i64 0, .slice none 0 0, .int .i64 0, .slice none 0 0, .int .i64 0, .int .i64 0, .string ⟨#[]⟩, .int .i64 0, .string ⟨#[]⟩] 37)) wa.heap.size 0 N.length by rw [hn.len]; exact KZ.there 0 13 (by simp)); have HW := hU hwa
   have N13 := hU hn.len; have N1 := hU hn.one
   have HN := hU (hn.ext hx2); have HWR := hU (hw1.ext hx2)
   replace KQ7 := hU (KQ7.out.ext hx2); replace K47 := hU (K47.out.ext hx2); replace EX7 := hU (EX7.out.next hx2)
   clear hwa KZ hx2 hn hw1
   go_upto_region 19 with (refine wpList_store_list rfl 37 _ _ rfl rfl wa.heap.size 0 N rfl rfl T4.out (by rw [N13.out]; kernel_rfl) N1.out ?_; rw [← HW.out])
   obtain ⟨g14, hg14⟩ : ∃ g14, g14 = wa.heap.size := ⟨_, rfl⟩
   rw [← hg14] at K14
   rw [← hg14]
   clear hg14 T4 HW N1
   have R14 := hU (Blk.range K14); have R3 := hU (Blk.range (K3H.out.ext EX7.out))
   clear K14
   go_wp2_with (first | (refine wpList_load_want (by rfl) 37 _ rfl g14 0 rfl N _ R14.out Tryz.underlying37 rfl (by rw [N13.out]; kernel_rfl) ?_) | (refine wpList_load_want (by rfl) 37 _ rfl g3 0 rfl M _ R3.out Tryz.underlying37 rfl (by rw [HX13.out]; kernel_rfl) ?_))
   refine (SB.out N _ _ _ HN.out.rd (HV.out.ext EX7.out).rd).mono ?_
   rintro e wc ⟨rfl, h1⟩
   replace KQ7 := hU (KQ7.out.ext h1); replace K47 := hU (K47.out.ext h1); replace EX7 := hU (EX7.out.next h1); replace HWR := hU (HWR.out.ext h1)
   clear h1 R14 R3 HN
   obtain ⟨r4, f4⟩ := K47.out.rules
   go_wp2_with fail
   refine (PA.out V vc _ KQ7.out HWR.out).mono ?_
   rintro e we ⟨q', c', cur, rfl, kq', hcur, hqq, h1⟩
   replace EX7 := hU (EX7.out.next h1)
   clear h1 r4 f4 PA KQ7 K47 HWR
   have hxe := Ext.new (Below.refl we.heap.size we) (.cells #[.slice (some ⟨q', 0, none⟩) 3 c'] 40)
   have K17 := Blk.new we 40 #[.slice (some ⟨q', 0, none⟩) 3 c']
   have KC := hU (kq'.ext hxe)
   replace EX7 := hU (EX7.out.next hxe)
   have HCU := hU hcur
   clear hxe kq' hcur
   go_upto_region 22 with fail
   obtain ⟨g17, hg17⟩ : ∃ g17, g17 = we.heap.size := ⟨_, rfl⟩
   rw [← hg17] at K17
   rw [← hg17]
   clear hg17
   generalize we.alloc (.cells #[.slice (some ⟨q', 0, none⟩) 3 c'] 40) = wf at *
   have cq : wf.cell? ⟨q', k, none⟩ = some (.string T) := by
    rw [HT.out]
    exact (KC.out.cell k).trans (cur_at HCU.out hk3 (by
     obtain rfl | rfl | rfl : k = 0 ∨ k = 1 ∨ k = 2 := by omega
     all_goals rfl))
   have c0 := BH.out _ (K3H.out.ext EX7.out)
   obtain ⟨r4, f4⟩ := K17.rules
   have TT : (T.toList == T.toList) = true := by simp
   go_wp2_with fail
   refine (MD.out q' c' cur _ KC.out HCU.out).mono ?_
   rintro e wg ⟨rfl, h1⟩
   go_wp2_with fail
   go_ret
   exact ⟨rfl, HE.out.next (EX7.out.next h1)⟩
 have hY40 : s0.size ≤ 40 := by omega
 have hY0 : 0 < s0.size := by omega
 have z0 : ((s0.size : Int) == 0) = false := beq_false_of_ne (by omega)
 go_upto_region 12 with fail
 have hws := was_size HB.out k
 have hk9 : (k : Int) < 3 := by omega
 have hk8 : ¬ (3 : Int) ≤ (k : Int) := by omega
 obtain ⟨T, hT⟩ : ∃ T, T = wasT b k := ⟨_, rfl⟩
 rw [← hT] at hws
 have HT := hU hT
 clear hT
 have cq : w6.cell? ⟨q, k, none⟩ = some (.string T) := by rw [HT.out]; exact (KQ.out.cell k).trans (fsC_at b hk3)
 have cf := KQ.out.frozen k
 obtain ⟨r4, f4⟩ := K4H.out.rules
 have hcat : ¬ 9223372036854775807 < T.size + s0.size := by omega
 go_upto_region 14 with fail
 have KQ7 := hU (show Blk (w6.setCell ⟨q, k, none⟩ (.string (T ++ s0))) q 9 ((tornT b k s0).map Value.string).toArray by rw [← torn_cells b hk3 s0, ← HT.out]; exact KQ.out.set_ k _)
 have K47 := hU (K4H.out.far (p := ⟨q, k, none⟩) (by show g4 ≠ q; omega) (.string (T ++ s0)))
 have EX7 := hU (show Ext w2 (w6.setCell ⟨q, k, none⟩ (.string (T ++ s0))) from Below.setCell EX.out (p := ⟨q, k, none⟩) (by show w2.heap.size ≤ q; exact hq) (.string (T ++ s0)))
 have C7 := hU (show (w6.setCell ⟨q, k, none⟩ (.string (T ++ s0))).cell? ⟨q, k, none⟩ = some (.string (T ++ s0)) by
  have h2 := KQ7.out.cell k
  rw [h2]
  have := torn_at b hk3 s0
  rw [← HT.out] at this
  simp [this])
 clear cq cf r4 f4 KQ K4H EX
 generalize w6.setCell ⟨q, k, none⟩ (.string (T ++ s0)) = w7 at *
 obtain ⟨r4, f4⟩ := K47.out.rules
 have cq := C7.out
 go_wp2_with fail
 refine (specUnframe_any (T ++ s0) _ (by rw [ByteArray.size_append]; omega)).mono ?_
 rintro e w8 ⟨v1, rfl, ho1, h1⟩
 obtain ⟨V1, c1, rfl⟩ := OwnS_form ho1
 replace KQ7 := hU (KQ7.out.ext h1); replace K47 := hU (K47.out.ext h1); replace EX7 := hU (EX7.out.next h1)
 clear h1 ho1 cq C7 r4 f4
 go_wp2_with fail
 refine (specUnframe_any T _ (by omega)).mono ?_
 rintro e w9 ⟨v2, rfl, ho2, h1⟩
 obtain ⟨V2, c2, rfl⟩ := OwnS_form ho2
 replace KQ7 := hU (KQ7.out.ext h1); replace K47 := hU (K47.out.ext h1); replace EX7 := hU (EX7.out.next h1)
 clear h1 ho2
 have UT := hU (show (unf T).1.length = (fileT b k).length by rw [HT.out, wasT, (file_unf HB.out k).1])
 obtain ⟨n1, hn1⟩ : ∃ n, n = (unf (T ++ s0)).1.length := ⟨_, rfl⟩
 obtain ⟨n2, hn2⟩ : ∃ n, n = (unf T).1.length := ⟨_, rfl⟩
 rw [← hn2] at UT
 rw [← hn1, ← hn2]
 have HN1 := hU hn1
 clear hn1 hn2
 by_cases hne : n1 = n2
 case neg =>
  have z1 : ((n1 : Int) == (n2 : Int)) = false := beq_false_of_ne (by omega)
  go_wp2_with fail
  go_ret
  exact ⟨rfl, HE.out.next EX7.out⟩
 subst hne
 obtain ⟨a1, a2, a3⟩ := again_T (Y := s0) HB.out hk3 (Nat.le_trans hY40 (by decide)) hY0 (by rw [← HT.out, ← HN1.out, UT.out])
 obtain ⟨tk, ts⟩ := torn_ok HB.out hk3 (Y := s0) (Nat.le_trans hY40 (by decide))
 have RD : Hid (∀ W : World, Blk W q 9 ((tornT b k s0).map Value.string).toArray → SlF AnyB sone 1 W (some ⟨q, 0, none⟩) (tornT b k s0) 3) := hU (fun W h => by
  refine ⟨by rw [torn_len]; exact Nat.le_refl 3, by unfold maxLen; omega, ?_, fun _ _ _ => trivial⟩
  show Reads W W.heap.size 1 (some ⟨q, 0, none⟩) (tornT b k s0).length ((tornT b k s0).flatMap sone)
  rw [flat_sone]
  exact Blk.reads h _ 1 (by simp))
 have RO : Hid (∀ (W : World), Blk W q 9 ((tornT b k s0).map Value.string).toArray → Calls Tryz.prog 14 #[.int .i64 wd, .agg #[.slice (some ⟨q, 0, none⟩) 3 3]] W fun e w' => ∃ (N : List Value) (V : Option Addr) (vc : Nat), e = .returned (.tuple #[.agg N.toArray, .slice V 1 vc, .int .i64 0]) ∧ BVal W.heap.size b N w' ∧ ReadsL w' w'.heap.size WriteD.cells 3 V [⟨(k : Int), (T.size : Int), ⟨#[]⟩⟩] ∧ Ext W w') := hU (fun W hk => by
  have h2 := implReopen_any b.width (some ⟨q, 0, none⟩) 3 (tornT b k s0) W (RD.out W hk).reads (by rw [torn_len]; decide) (fun x hx => by have := ts x hx; omega)
  rw [torn_len, ← HWD.out] at h2
  refine h2.mono ?_
  rintro e w' ⟨ve, vr, vh, v1, v2, vw, he, hr, ha, ho, hx⟩
  rw [HWD.out] at hr ho he
  rw [a1] at hr
  rw [a2, ← HT.out] at ho
  rw [a1, a3] at he
  obtain ⟨V, vc, rfl, _⟩ := ownsRow_form ho
  exact ⟨_, V, vc, he, val_of hr ha, Reads.of_own ho, hx⟩)
 have PA := hU (fun (V : Option Addr) (vc : Nat) (W : World) (h1 : Blk W q 9 ((tornT b k s0).map Value.string).toArray) (h2 : ReadsL W W.heap.size WriteD.cells 3 V [⟨(k : Int), (T.size : Int), ⟨#[]⟩⟩]) => PutAll_one q 3 k T.size (tornT b k s0) (T ++ s0) ⟨#[]⟩ V vc W (torn_len b k s0) tk (RD.out W h1) h2 hk3 (by rw [HT.out]; exact torn_at b hk3 s0) (by rw [ByteArray.size_append]; omega) (by rw [ByteArray.size_append]; omega) (by show 0 + T.size ≤ 300000; omega))
 have BK := hU (show (tornT b k s0).set k ((T ++ s0).extract 0 T.size ++ (⟨#[]⟩ : ByteArray)) = diskT b by rw [cut_back, HT.out]; exact torn_back b hk3 s0)
 rw [BK.out] at PA
 have MD : Hid (∀ (q' c' : Nat) (cur : Array Value) (W : World), Blk W q' 9 cur → cur.toList.take 3 = (diskT b).flatMap sone → Calls Tryz.prog 17 #[.int .i64 wd, .agg #[.slice (some ⟨q', 0, none⟩) 3 c']] W fun e w' => e = .returned (.bool true) ∧ Ext W w') := hU (fun q' c' cur W hk hc => by
  have hr : ReadsL W W.heap.size sone 1 (some ⟨q', 0, none⟩) (diskT b) := ⟨by rw [flat_sone]; simp, fun _ => ⟨q', 0, rfl, hk.lt, fun j u hu => by
   rw [← hc, List.getElem?_take] at hu
   split at hu
   · rw [Nat.zero_add, hk.cell]; simpa using hu
   · cases hu⟩⟩
  have h2 := implMended_any b.width (some ⟨q', 0, none⟩) c' (diskT b) W hr (show (3 : Nat) ≤ 1048576 by decide) (disk_small HB.out)
  rw [(again_W HB.out).2.2.2, ← HWD.out] at h2
  exact h2)
 clear a1 a2 a3 tk ts UT HN1 RD BK
 have K3Q := hU (K3H.out.ext EX7.out)
 have c0 := BH.out _ K3Q.out
 obtain ⟨r4, f4⟩ := K47.out.rules
 have ccn : ((n1 : Int) != (n1 : Int)) = false := by simp
 go_wp2_with fail
 refine (RO.out _ KQ7.out).mono ?_
 rintro e wa ⟨N, V, vc, rfl, hn, hw1, h1⟩
 replace KQ7 := hU (KQ7.out.ext h1); replace K47 := hU (K47.out.ext h1); replace EX7 := hU (EX7.out.next h1)
 clear h1 c0 r4 f4 K3Q RO ccn
 have KZ := Blk.new wa 37 #[.int .i64 0, .slice none 0 0, .slice none 0 0, .slice none 0 0, .int .i64 0, .slice none 0 0, .int .i64 0, .slice none 0 0, .int .i64 0, .int .i64 0, .string ⟨#[]⟩, .int .i64 0, .string ⟨#[]⟩]
 obtain ⟨wb, hwa, K14, hx2⟩ : ∃ wb, wb = (wa.alloc (.cells #[.int .i64 0, .slice none 0 0, .slice none 0 0, .slice none 0 0, .int .i64 0, .slice none 0 0, .int .i64 0, .slice none 0 0, .int .i64 0, .int .i64 0, .string ⟨#[]⟩, .int .i64 0, .string ⟨#[]⟩] 37)).setCells wa.heap.size 0 N ∧ Blk wb wa.heap.size 37 N.toArray ∧ Ext wa wb := ⟨_, rfl, put_whole KZ N (by rw [hn.len]; rfl), ext_setCells (W := wa) (Nat.le_refl _) N 0 _ (Ext.new (Below.refl _ _) _)⟩
 have T4 := hU (show World.there (wa.alloc (.cells #[.int .i64 0, .slice none 0 0, .slice none 0 0, .slice none 0 0, .int .i64 0, .slice none 0 0, .int .i64 0, .slice none 0 0, .int .i64 0, .int .i64 0, .string ⟨#[]⟩, .int .i64 0, .string ⟨#[]⟩] 37)) wa.heap.size 0 N.length by rw [hn.len]; exact KZ.there 0 13 (by simp)); have HW := hU hwa
 have N13 := hU hn.len; have N1 := hU hn.one
 have HN := hU (hn.ext hx2); have HWR := hU (hw1.ext hx2)
 replace KQ7 := hU (KQ7.out.ext hx2); replace K47 := hU (K47.out.ext hx2); replace EX7 := hU (EX7.out.next hx2)
 clear hwa KZ hx2 hn hw1
 go_upto_region 19 with (refine wpList_store_list rfl 37 _ _ rfl rfl wa.heap.size 0 N rfl rfl T4.out (by rw [N13.out]; kernel_rfl) N1.out ?_; rw [← HW.out])
 obtain ⟨g14, hg14⟩ : ∃ g14, g14 = wa.heap.size := ⟨_, rfl⟩
 rw [← hg14] at K14
 rw [← hg14]
 clear hg14 T4 HW N1
 have R14 := hU (Blk.range K14); have R3 := hU (Blk.range (K3H.out.ext EX7.out))
 clear K14
 go_wp2_with (first | (refine wpList_load_want (by rfl) 37 _ rfl g14 0 rfl N _ R14.out Tryz.underlying37 rfl (by rw [N13.out]; kernel_rfl) ?_) | (refine wpList_load_want (by rfl) 37 _ rfl g3 0 rfl M _ R3.out Tryz.underlying37 rfl (by rw [HX13.out]; kernel_rfl) ?_))
 refine (SB.out N _ _ _ HN.out.rd (HV.out.ext EX7.out).rd).mono ?_
 rintro e wc ⟨rfl, h1⟩
 replace KQ7 := hU (KQ7.out.ext h1); replace K47 := hU (K47.out.ext h1); replace EX7 := hU (EX7.out.next h1); replace HWR := hU (HWR.out.ext h1)
 clear h1 R14 R3 HN
 obtain ⟨r4, f4⟩ := K47.out.rules
 go_wp2_with fail
 refine (PA.out V vc _ KQ7.out HWR.out).mono ?_
 rintro e we ⟨q', c', cur, rfl, kq', hcur, hqq, h1⟩
 replace EX7 := hU (EX7.out.next h1)
 clear h1 r4 f4 PA KQ7 K47 HWR
 have hxe := Ext.new (Below.refl we.heap.size we) (.cells #[.slice (some ⟨q', 0, none⟩) 3 c'] 40)
 have K17 := Blk.new we 40 #[.slice (some ⟨q', 0, none⟩) 3 c']
 have KC := hU (kq'.ext hxe)
 replace EX7 := hU (EX7.out.next hxe)
 have HCU := hU hcur
 clear hxe kq' hcur
 go_upto_region 22 with fail
 obtain ⟨g17, hg17⟩ : ∃ g17, g17 = we.heap.size := ⟨_, rfl⟩
 rw [← hg17] at K17
 rw [← hg17]
 clear hg17
 generalize we.alloc (.cells #[.slice (some ⟨q', 0, none⟩) 3 c'] 40) = wf at *
 have cq : wf.cell? ⟨q', k, none⟩ = some (.string T) := by
  rw [HT.out]
  exact (KC.out.cell k).trans (cur_at HCU.out hk3 (by
   obtain rfl | rfl | rfl : k = 0 ∨ k = 1 ∨ k = 2 := by omega
   all_goals rfl))
 have c0 := BH.out _ (K3H.out.ext EX7.out)
 obtain ⟨r4, f4⟩ := K17.rules
 have TT : (T.toList == T.toList) = true := by simp
 go_wp2_with fail
 refine (MD.out q' c' cur _ KC.out HCU.out).mono ?_
 rintro e wg ⟨rfl, h1⟩
 go_wp2_with fail
 go_ret
 exact ⟨rfl, HE.out.next (EX7.out.next h1)⟩
end Go.Proofs.YtgeengkdgdjcjaaGreat
