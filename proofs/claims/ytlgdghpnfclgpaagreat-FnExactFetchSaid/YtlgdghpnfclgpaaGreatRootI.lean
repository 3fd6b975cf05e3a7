/-
  LeafAt; Root5; Bits; PathOps; RootI: No condition.
-/
import Derived.Test.YtlgdghpnfclgpaaGreatLogOks
import Derived.Test.YtlgdghpnfclgpaaGreatMem
import Derived.Laws.MathBits
import Derived.Test.YtlgdghpnfclgpaaGreatMerkle
import Derived.Test.YtlgdghpnfclgpaaGreatBunch
import Derived.Test.YtlgdghpnfclgpaaGreatNodeW
import Derived.Test.YtlgdghpnfclgpaaGreatHeadOps
namespace Go.Proofs.YtlgdghpnfclgpaaGreat
set_option maxHeartbeats 2000000
set_option maxRecDepth 100000
set_option linter.unusedSimpArgs false
open Go.RowKit
set_option linter.unusedVariables false
theorem take_none {α : Type} {p : α → Bool} {l : List α} {k : Nat} {d : α} (h : ∀ x ∈ l.take k, p x = false) (hd : l[k]? = some d) (hp : p d = false) : ∀ x ∈ l.take (k + 1), p x = false := by
 obtain ⟨hk, rfl⟩ := List.getElem?_eq_some_iff.1 hd
 intro x hx
 rw [List.take_succ_eq_append_getElem hk, List.mem_append] at hx
 rcases hx with hx | hx
 · exact h x hx
 · obtain rfl := List.mem_singleton.1 hx
   exact hp
theorem l09Leaf_any {B : Nat} (A : Option Addr) (c : Nat) (l : List EntryD) (t : ByteArray) (ix : Int) (w : World) (hr : ReadsL w B EntryD.cells 5 A l) (hl : l.length ≤ 1048576) :
 Calls Tryz.prog 101 #[.slice A l.length c, .string t, .int .i64 ix] w fun e w' => e = .returned (.int .i64 (idxB (ofTI t ix) l)) ∧ w = w' := by
 have HR := hU hr
 obtain ⟨fin, hfin⟩ : ∃ fin, fin = idxB (ofTI t ix) l := ⟨_, rfl⟩
 rw [← hfin]
 have F := hU hfin
 clear hfin hr
 go_enter Tryz.func101, Tryz.ntmps101
 go_wp2_with fail
 go_loopw [7] (fun i wr => ∃ k : Nat, k ≤ l.length ∧ i = .int .i64 k ∧ (∀ x ∈ l.take k, ofTI t ix x = false) ∧ w = wr) (fun i _ => l.length - (intOf i).toNat)
 case atStart => exact ⟨0, Nat.zero_le _, rfl, by simp, rfl⟩
 case round =>
  obtain ⟨k, hk, rfl, hi, rfl⟩ := hrel
  have Hi := hU hi
  clear hi
  by_cases hlt : k < l.length
  case neg =>
   have E := hU (show fin = -1 by rw [F.out]; exact idxB_none (by have := Hi.out; rwa [show k = l.length by omega, List.take_length] at this))
   go_wp2_with fail
   go_ret
   exact ⟨ret_int E.out.symm, rfl⟩
  obtain ⟨b, off, rfl, hb, hc⟩ := Reads.at_ HR.out (k := k) hlt
  obtain ⟨d, hd⟩ : ∃ d, d = l[k] := ⟨_, rfl⟩
  have hdl : l[k]? = some d := by rw [hd]; exact List.getElem?_eq_getElem hlt
  obtain ⟨c0, c1, c2, c3, c4⟩ := entry_at hc hdl
  have Hdl := hU hdl
  have P := hU (show ofTI t ix d = ((d.topic.toList == t.toList) && (d.index == ix)) from rfl)
  clear hc hd hdl
  cases p1 : (d.topic.toList == t.toList)
  · have E := hU (take_none Hi.out Hdl.out (by rw [P.out, p1]; rfl))
    clear P
    go_wp2_with fail
    go_roundw
    case rel => exact ⟨k + 1, by omega, by go_num, E.out, trivial⟩
    case measure => simp [intOf]; omega
  by_cases p2 : d.index = ix
  · have E := hU (show fin = (k : Int) by rw [F.out]; exact idxB_at Hdl.out (by rw [P.out, p1, beq_iff_eq.2 p2]; rfl) Hi.out)
    clear P
    go_wp2_with fail
    go_ret
    exact ⟨ret_int E.out.symm, rfl⟩
  · have E := hU (take_none Hi.out Hdl.out (by rw [P.out, p1, beq_false_of_ne p2]; rfl))
    clear P
    go_wp2_with fail
    go_roundw
    case rel => exact ⟨k + 1, by omega, by go_num, E.out, trivial⟩
    case measure => simp [intOf]; omega
theorem slf_takeT {w : World} {b off c : Nat} {l : List ByteArray} (h : SlF AnyB sone 1 w (some ⟨b, off, none⟩) l c) (k : Nat) (hk : k ≤ l.length) : SlF AnyB sone 1 w (some ⟨b, off, none⟩) (l.take k) c :=
 ⟨by have := h.le; rw [List.length_take]; omega, h.cap, reads_take (f := sone) (size := 1) (fun _ => rfl) h.reads k hk, fun _ _ _ => trivial⟩
theorem slf_dropT {w : World} {b off c : Nat} {l : List ByteArray} (h : SlF AnyB sone 1 w (some ⟨b, off, none⟩) l c) (k : Nat) (hk : k < l.length) : SlF AnyB sone 1 w (some ⟨b, off + k, none⟩) (l.drop k) (c - k) := by
 refine ⟨by have := h.le; rw [List.length_drop]; omega, by have := h.cap; omega, ⟨flat_len sone 1 (fun _ => rfl) _, fun hn => ?_⟩, fun _ _ _ => trivial⟩
 obtain ⟨b', off', e, hb, hc⟩ := h.reads.2 (by omega)
 cases e
 refine ⟨b, off + k, rfl, hb, fun j u hu => ?_⟩
 have e1 : l.flatMap sone = (l.take k).flatMap sone ++ (l.drop k).flatMap sone := by rw [← List.flatMap_append, List.take_append_drop]
 have e2 : ((l.take k).flatMap sone).length = k := by rw [flat_len sone 1 (fun _ => rfl) _, List.length_take]; omega
 have := hc (k + j) u (by rw [e1, List.getElem?_append_right (by omega), e2, Nat.add_sub_cancel_left]; exact hu)
 rw [Nat.add_assoc]; exact this
theorem specNodeHash_good (n : Int) (a b : ByteArray) (w : World) (hn : inR n 1 32 = true) (ha : a.size = n.toNat) (hb : b.size = n.toNat) : Calls Tryz.prog 171 #[.int .i64 n, .string a, .string b] w fun e w' => e = .returned (.tuple #[.string (nodeT n (a ++ b)), .bool true]) ∧ Ext w w' := by
 have hn2 := inR_true hn
 have h1 : (a.size : Int) = n := by omega
 have h2 : (b.size : Int) = n := by omega
 have h3 : (a ++ b).size ≤ 4000 := by rw [ByteArray.size_append]; omega
 have E : digestOk n 1 (a ++ b) = true := by rw [digestOk, hn]; simp [inR]; rw [ByteArray.size_append] at h3; omega
 have E := hU E
 have ha2 : a.size ≤ 1000 := by omega
 have hb2 : b.size ≤ 1000 := by omega
 have hs : (a ++ b).size ≤ maxLen := by unfold maxLen; omega
 clear ha hb h3 hn2
 go_enter Tryz.func171, Tryz.ntmps171
 go_wp2_with fail
 refine (l02Width_any n _).mono ?_
 rintro e w1 ⟨rfl, rfl⟩
 go_wp2_with fail
 refine (specDigest_any n 1 (a ++ b) _ hs).mono ?_
 rintro e w1 ⟨rfl, he⟩
 rw [E.out]
 go_wp2_with fail
 go_ret2
 exact ⟨rfl, he⟩
set_option maxHeartbeats 8000000
set_option maxRecDepth 1000000
theorem log2_high {x : Nat} (h0 : 256 ≤ x) (h1 : x < 512) : Nat.log2 x = 8 := (Nat.log2_eq_iff (by omega)).2 ⟨by omega, by omega⟩
theorem bits_low (k : Nat) (h : k ≤ 8) : wrap64 (wrap64 (k : Int)) = (k : Int) := by unfold wrap64; omega
theorem Len64_any (x : Nat) (w : World) (h0 : 0 < x) (hx : x < 512) : Calls Tryz.prog 252 #[.int .u64 (x : Int)] w fun e w' => e = .returned (.int .i64 ((Nat.log2 x + 1 : Nat) : Int)) ∧ w = w' := by
 have d1 : decide ((x : Int) ≥ 4294967296) = false := by rw [decide_eq_false_iff_not]; omega
 go_enter Tryz.func252, Tryz.ntmps252
 go_wp2_with fail
 · go_ret
   refine ⟨ret_int ?_, rfl⟩
   have h1 : 256 ≤ x := by omega
   have h2 : x / 256 = 1 := by omega
   rw [log2_high h1 hx, len8tab_get (x / 256) _, h2, show bitLen 1 = 1 by decide +kernel]
   unfold wrap64
   omega
 · go_ret
   refine ⟨ret_int ?_, rfl⟩
   have h1 : x < 256 := by omega
   rw [len8tab_get x _, bits_low _ (bitLen_le8 x h1), bitLen, if_neg (by omega)]
theorem hashes_no {w : Int} {l : List ByteArray} {k : Nat} (hk : k < l.length) (h : ((l[k].size : Int) == w) = false) : hashes w l = false := by
 rw [hashes, List.all_eq_false]
 exact ⟨l[k], List.getElem_mem hk, by simpa using h⟩
theorem hashes_up {w : Int} {l : List ByteArray} (h : ∀ k (hk : k < l.length), ((l[k].size : Int) == w) = true) : hashes w l = true := by
 rw [hashes, List.all_eq_true]
 intro x hx
 obtain ⟨k, hk, rfl⟩ := List.getElem_of_mem hx
 exact h k hk
theorem l04Hashes_any (n : Int) (A : Option Addr) (c : Nat) (l : List ByteArray) (w : World) (hr : ReadsL w w.heap.size sone 1 A l) (hl : l.length ≤ 1048576) :
 Calls Tryz.prog 187 #[.int .i64 n, .slice A l.length c] w fun e w' => e = .returned (.bool (hashes n l && inR n 1 32)) ∧ Ext w w' := by
 go_enter Tryz.func187, Tryz.ntmps187
 go_wp2_with fail
 go_loopw [5] (fun i wr => ∃ (k : Nat), k ≤ l.length ∧ i = .int .i64 k ∧ (∀ j (hj : j < l.length), j < k → ((l[j].size : Int) == n) = true) ∧ Ext w wr) (fun i _ => l.length - (intOf i).toNat)
 case atStart => exact ⟨0, Nat.zero_le _, rfl, fun j _ h => absurd h (Nat.not_lt_zero _), Below.refl _ _⟩
 case round =>
  obtain ⟨k, hk, rfl, hall, he⟩ := hrel
  have Hall := hU hall; clear hall
  by_cases hlt : k < l.length
  · obtain ⟨b, off, rfl, hb, hc⟩ := Reads.at_ (hr.ext he) (k := k) hlt
    have hdl : l[k]? = some l[k] := List.getElem?_eq_getElem hlt
    have c0 := hc 0 _ (flat_at _ 1 sone_length l k 0 _ hdl (by omega))
    rw [Nat.add_zero, Nat.mul_one] at c0
    clear hc hdl
    have hd : decide ((k : Int) < (l.length : Int)) = true := by rw [decide_eq_true_iff]; omega
    cases b1 : ((l[k].size : Int) == n)
    · have E := hU (hashes_no hlt b1)
      have b2 := ne_of_beq b1
      generalize l[k] = x at *
      go_wp2_with fail
      go_ret
      exact ⟨ret_bool (by rw [E.out]; rfl), he⟩
    · have Hn : Hid (∀ j (hj : j < l.length), j < k + 1 → ((l[j].size : Int) == n) = true) := hU (fun j hj h => by
       rcases Nat.lt_or_ge j k with h1 | h1
       · exact Hall.out j hj h1
       · obtain rfl : j = k := by omega
         exact b1)
      have b2 := ne_of_beq b1
      clear Hall
      generalize l[k] = x at *
      go_wp2_with fail
      go_roundw
      case rel => exact ⟨k + 1, by omega, by go_num, Hn.out, he⟩
      case measure => simp [intOf]; omega
  · have E := hU (hashes_up (fun j hj => Hall.out j hj (by omega)))
    have hd : decide ((k : Int) < (l.length : Int)) = false := by rw [decide_eq_false_iff_not]; omega
    go_wp2_with (go_at_call 129; refine (l02Width_any _ _).mono ?_; rintro e w' ⟨rfl, rfl⟩)
    go_ret
    exact ⟨ret_bool (by rw [E.out]; rfl), he⟩
theorem Len_any (x : Nat) (w : World) (h0 : 0 < x) (hx : x < 512) : Calls Tryz.prog 242 #[.int .u64 (x : Int)] w fun e w' => e = .returned (.int .i64 ((Nat.log2 x + 1 : Nat) : Int)) ∧ w = w' := by
 go_enter Tryz.func242, Tryz.ntmps242
 go_wp2_with (go_at_call 252; refine (Len64_any x _ h0 hx).mono ?_; rintro e w' ⟨rfl, rfl⟩)
 go_ret
 exact ⟨rfl, rfl⟩
theorem HalfOf_any (n : Nat) (w : World) (h0 : 2 ≤ n) (h1 : n ≤ 512) : Calls Tryz.prog 222 #[.int .i64 (n : Int)] w fun e w' => e = .returned (.int .i64 (half n : Int)) ∧ w = w' := by
 have hin : inR (n : Int) 2 512 = true := by simp [inR]; omega
 have hl : Nat.log2 (n - 1) < 9 := (Nat.log2_lt (by omega)).2 (by omega)
 have e1 : (n : Int) - 1 = ((n - 1 : Nat) : Int) := by omega
 unfold half
 have HL := fun (x : Nat) (w : World) (hx : x = n - 1) (k : Nat) (hk : k = Nat.log2 (n - 1)) => show Calls Tryz.prog 242 #[.int .u64 (x : Int)] w fun e w' => e = .returned (.int .i64 ((k + 1 : Nat) : Int)) ∧ w = w' by
  subst hx; subst hk; exact Len_any (n - 1) w (by omega) (by omega)
 have HL := fun w => HL (n - 1) w rfl _ rfl
 generalize Nat.log2 (n - 1) = k at hl HL ⊢
 have HL := hU HL
 have hc : k = 0 ∨ k = 1 ∨ k = 2 ∨ k = 3 ∨ k = 4 ∨ k = 5 ∨ k = 6 ∨ k = 7 ∨ k = 8 := by omega
 rcases hc with rfl | rfl | rfl | rfl | rfl | rfl | rfl | rfl | rfl
 all_goals
  go_enter Tryz.func222, Tryz.ntmps222
  go_wp2_with (first | (go_at_call 135; refine (inRange_any _ _ _ _).mono ?_; rintro e w' ⟨rfl, rfl⟩; rw [hin]) | (go_at_call 242; refine (HL.out _).mono ?_; rintro e w' ⟨rfl, rfl⟩))
  go_ret
  exact ⟨rfl, rfl⟩
theorem specHalfOf_any (n : Nat) (w : World) (h0 : 2 ≤ n) (h1 : n ≤ 512) : Calls Tryz.prog 170 #[.int .i64 (n : Int)] w fun e w' => e = .returned (.int .i64 (half n : Int)) ∧ w = w' := by
 have hin : inR (n : Int) 2 512 = true := by simp [inR]; omega
 go_enter Tryz.func170, Tryz.ntmps170
 go_wp2_with (go_at_call 181; refine (l01In_any _ _ _ _).mono ?_; rintro e w' ⟨rfl, rfl⟩; rw [hin])
 have H0 := hU (show (1 : Nat) = 2 ^ 0 from rfl)
 go_loop [3] (fun p => ∃ k m : Nat, p = .int .i64 (m : Int) ∧ 0 < m ∧ m < n ∧ Hid (m = 2 ^ k)) (fun p => n - (intOf p).toNat)
 case atStart => exact ⟨0, 1, rfl, by omega, by omega, H0⟩
 case round =>
  obtain ⟨k, m, rfl, hm1, hlt, hm⟩ := hrel
  by_cases h : 2 * m < n
  · have hd : decide (2 * (m : Int) < (n : Int)) = true := by rw [decide_eq_true_iff]; omega
    have e2 := hU (show 2 * m = 2 ^ (k + 1) by rw [hm.out, Nat.pow_succ]; omega)
    go_wp2_with fail
    go_round
    case rel => exact ⟨k + 1, 2 * m, by go_num, by omega, h, e2⟩
    case measure => simp [intOf]; omega
  · have hd : decide (2 * (m : Int) < (n : Int)) = false := by rw [decide_eq_false_iff_not]; omega
    have e3 := hU (show half n = m by rw [hm.out]; exact half_eq (by have := hm.out; omega) (by have := hm.out; rw [Nat.pow_succ]; omega))
    go_wp2_with fail
    go_ret
    exact ⟨ret_int (by rw [e3.out]), rfl⟩
theorem rootOf_nil (wd : Int) (A : Option Addr) (c : Nat) (w : World) : Calls Tryz.prog 223 #[.int .i64 wd, .slice A 0 c] w fun e w' => e = .returned (.string (treeR wd [])) ∧ Ext w w' := by
 have E := hU (show treeR wd [] = emptyR wd from rfl)
 go_enter Tryz.func223, Tryz.ntmps223
 go_wp2_with fail
 refine (emptyRoot_any wd _).mono ?_
 rintro e w1 ⟨rfl, h1⟩
 go_wp2_with fail
 go_ret
 exact ⟨ret_str E.out.symm, h1⟩
theorem rootOf_any (wd : Int) (hwd : inR wd 1 32 = true) : ∀ (m : Nat) (l : List ByteArray) (A : Option Addr) (c : Nat) (w : World), l.length ≤ m → l.length ≤ 512 → SlF AnyB sone 1 w A l c → (∀ s ∈ l, s.size = wd.toNat) →
 Calls Tryz.prog 223 #[.int .i64 wd, .slice A l.length c] w fun e w' => e = .returned (.string (treeR wd l)) ∧ Ext w w' := by
 intro m
 induction m with
 | zero =>
   intro l A c w hm _ _ _
   obtain rfl : l = [] := List.eq_nil_of_length_eq_zero (by omega)
   exact rootOf_nil wd A c w
 | succ m ih =>
   intro l A c w hm h5 hr hs
   rcases Nat.lt_or_ge l.length 2 with h2 | h2
   · match l, hm, h5, hr, hs, h2 with
     | [], _, _, _, _, _ => exact rootOf_nil wd A c w
     | [x], _, _, hr, _, _ =>
       obtain ⟨b, off, rfl, hb, hc⟩ := Reads.at_ hr.reads (k := 0) (by simp)
       have c0 : w.cell? ⟨b, off, none⟩ = some (.string x) := hc 0 _ rfl
       have E := hU (show treeR wd [x] = x from rfl)
       clear hc hr ih
       show Calls Tryz.prog 223 #[.int .i64 wd, .slice (some ⟨b, off, none⟩) 1 c] w _
       go_enter Tryz.func223, Tryz.ntmps223
       go_wp2_with fail
       go_ret
       exact ⟨ret_str E.out.symm, Below.refl w.heap.size w⟩
     | _ :: _ :: r, _, _, _, _, h2 => exact absurd h2 (by simp)
   obtain ⟨b, off, rfl, hb, hc⟩ := Reads.at_ hr.reads (k := 0) (by omega)
   have l1 := half_lt h2
   have l2 := half_pos l.length
   have MR : treeR wd l = nodeT wd (treeR wd (l.take (half l.length)) ++ treeR wd (l.drop (half l.length))) := mroot_more _ _ h2
   have HH := hU (HalfOf_any l.length w h2 h5)
   obtain ⟨hf, hhf⟩ : ∃ hf, hf = half l.length := ⟨_, rfl⟩
   rw [← hhf] at l1 l2 MR HH
   clear hhf hc
   have t1 : (l.take hf).length = hf := by rw [List.length_take]; omega
   have t2 : (l.drop hf).length = l.length - hf := List.length_drop ..
   have sx := treeR_size hwd _ (l.take hf) (Nat.le_refl _) (fun s h => hs s (List.mem_of_mem_take h))
   have sy := treeR_size hwd _ (l.drop hf) (Nat.le_refl _) (fun s h => hs s (List.mem_of_mem_drop h))
   have C1 : Hid (∀ W : World, Ext w W → Calls Tryz.prog 223 #[.int .i64 wd, .slice (some ⟨b, off, none⟩) hf c] W fun e w' => e = .returned (.string (treeR wd (l.take hf))) ∧ Ext W w') := hU (fun W h => by
    have := ih (l.take hf) (some ⟨b, off, none⟩) c W (by omega) (by omega) (slf_takeT (hr.ext h) hf (by omega)) (fun s h => hs s (List.mem_of_mem_take h))
    rwa [t1] at this)
   have C2 : Hid (∀ W : World, Ext w W → Calls Tryz.prog 223 #[.int .i64 wd, .slice (some ⟨b, off + hf, none⟩) (l.length - hf) (c - hf)] W fun e w' => e = .returned (.string (treeR wd (l.drop hf))) ∧ Ext W w') := hU (fun W h => by
    have := ih (l.drop hf) (some ⟨b, off + hf, none⟩) (c - hf) W (by omega) (by omega) (slf_dropT (hr.ext h) hf (by omega)) (fun s h => hs s (List.mem_of_mem_drop h))
    rwa [t2] at this)
   obtain ⟨X, hX⟩ : ∃ X, X = treeR wd (l.take hf) := ⟨_, rfl⟩
   obtain ⟨Y, hY⟩ : ∃ Y, Y = treeR wd (l.drop hf) := ⟨_, rfl⟩
   obtain ⟨R, hR⟩ : ∃ R, R = nodeT wd (X ++ Y) := ⟨_, rfl⟩
   rw [← hX] at sx MR C1
   rw [← hY] at sy MR C2
   rw [← hR] at MR
   have NH : Hid (∀ W : World, Calls Tryz.prog 240 #[.int .i64 wd, .string X, .string Y] W fun e w' => e = .returned (.string R) ∧ Ext W w') := hU (fun W => by have h1 := inR_true hwd; rw [hR]; exact node_any wd X Y W (by omega) (by omega))
   have E := hU MR
   have hle := hr.le
   have hcap := hr.cap
   have hcap2 : c ≤ 9223372036854775807 := by unfold maxLen at hcap; omega
   have d0 : ((l.length : Int) == 0) = false := beq_false_of_ne (by omega)
   have d1 : ((l.length : Int) == 1) = false := beq_false_of_ne (by omega)
   have e0 : ¬ (l.length = 0) := by omega
   have e1 : ¬ (l.length = 1) := by omega
   have e2 : ¬ ((l.length : Int) = 1) := by omega
   have hfl : hf ≤ l.length := by omega
   have hfc : hf ≤ c := by omega
   have hcf : ¬ c = hf := by omega
   clear hX hY hR MR sx sy t1 t2 ih hr hs hcap
   go_enter Tryz.func223, Tryz.ntmps223
   go_wp2_with fail
   refine HH.out.mono ?_
   rintro e w1 ⟨rfl, rfl⟩
   go_upto_region 7 with fail
   refine wp_region_held_drew (S := fun w' => Ext w w') (by kernel_rfl) (show Ext w w from Below.refl w.heap.size w).drew (fun hH => ?_)
   refine takeH (i := 0) (oi := _) (v := .int .i64 wd) (some 20) rfl rfl (by kernel_rfl) (by kernel_rfl) (by kernel_rfl) (fun _ a b _ e h => by cases a; cases b; cases e; exact h) (Or.inl ⟨by rfl, ?yz901⟩) hH ?rz901
   case yz901 => intro w' hS'; go_simp; try with_reducible rfl
   (try simp only [fillA, Act.put, List.setIfInBounds_toArray, List.set_cons_zero, List.set_cons_succ])
   refine takeH (i := 1) (oi := _) (v := .int .i64 wd) (some 21) rfl rfl (by kernel_rfl) (by kernel_rfl) (by kernel_rfl) (fun _ a b _ e h => by cases a; cases b; cases e; exact h) (Or.inl ⟨by rfl, ?yz902⟩) hH ?rz902
   case yz902 => intro w' hS'; go_simp; try with_reducible rfl
   (try simp only [fillA, Act.put, List.setIfInBounds_toArray, List.set_cons_zero, List.set_cons_succ])
   refine takeH (i := 2) (oi := _) (v := .slice (some ⟨b, off, none⟩) l.length c) (some 22) rfl rfl (by kernel_rfl) (by kernel_rfl) (by kernel_rfl) (fun _ a b _ e h => by cases a; cases b; cases e; exact h) (Or.inl ⟨by rfl, ?yz903⟩) hH ?rz903
   case yz903 => intro w' hS'; go_simp; try with_reducible rfl
   (try simp only [fillA, Act.put, List.setIfInBounds_toArray, List.set_cons_zero, List.set_cons_succ])
   refine takeH (i := 3) (oi := _) (v := .int .i64 (hf : Int)) (some 23) rfl rfl (by kernel_rfl) (by kernel_rfl) (by kernel_rfl) (fun _ a b _ e h => by cases a; cases b; cases e; exact h) (Or.inl ⟨by rfl, ?yz904⟩) hH ?rz904
   case yz904 => intro w' hS'; go_simp; try with_reducible rfl
   (try simp only [fillA, Act.put, List.setIfInBounds_toArray, List.set_cons_zero, List.set_cons_succ])
   refine takeH (i := 4) (oi := _) (v := .slice (some ⟨b, off, none⟩) hf c) (some 24) rfl rfl (by kernel_rfl) (by kernel_rfl) (by kernel_rfl) (fun _ a b _ e h => by cases a; cases b; cases e; exact h) (Or.inl ⟨by rfl, ?yz905⟩) hH ?rz905
   case yz905 => intro w' hS'; go_simp; try with_reducible rfl
   (try simp only [fillA, Act.put, List.setIfInBounds_toArray, List.set_cons_zero, List.set_cons_succ])
   refine takeH (i := 6) (oi := _) (v := .int .i64 wd) (some 26) rfl rfl (by kernel_rfl) (by kernel_rfl) (by kernel_rfl) (fun _ a b _ e h => by cases a; cases b; cases e; exact h) (Or.inl ⟨by rfl, ?yz906⟩) hH ?rz906
   case yz906 => intro w' hS'; go_simp; try with_reducible rfl
   (try simp only [fillA, Act.put, List.setIfInBounds_toArray, List.set_cons_zero, List.set_cons_succ])
   refine takeH (i := 7) (oi := _) (v := .slice (some ⟨b, off, none⟩) l.length c) (some 27) rfl rfl (by kernel_rfl) (by kernel_rfl) (by kernel_rfl) (fun _ a b _ e h => by cases a; cases b; cases e; exact h) (Or.inl ⟨by rfl, ?yz907⟩) hH ?rz907
   case yz907 => intro w' hS'; go_simp; try with_reducible rfl
   (try simp only [fillA, Act.put, List.setIfInBounds_toArray, List.set_cons_zero, List.set_cons_succ])
   refine takeH (i := 8) (oi := _) (v := .int .i64 (hf : Int)) (some 28) rfl rfl (by kernel_rfl) (by kernel_rfl) (by kernel_rfl) (fun _ a b _ e h => by cases a; cases b; cases e; exact h) (Or.inl ⟨by rfl, ?yz908⟩) hH ?rz908
   case yz908 => intro w' hS'; go_simp; try with_reducible rfl
   (try simp only [fillA, Act.put, List.setIfInBounds_toArray, List.set_cons_zero, List.set_cons_succ])
   refine takeH (i := 9) (oi := _) (v := .slice (some ⟨b, off + hf, none⟩) (l.length - hf) (c - hf)) (some 29) rfl rfl (by kernel_rfl) (by kernel_rfl) (by kernel_rfl) (fun _ a b _ e h => by cases a; cases b; cases e; exact h) (Or.inl ⟨by rfl, ?yz909⟩) hH ?rz909
   case yz909 => intro w' hS'; go_simp; try with_reducible rfl
   (try simp only [fillA, Act.put, List.setIfInBounds_toArray, List.set_cons_zero, List.set_cons_succ])
   refine oneH 5 (oi := _) (some 25) (by kernel_rfl) rfl rfl rfl (fun K' hK => ?_)
   refine ⟨?_⟩
   rw [if_pos (by rfl)]
   go_simp
   refine (C1.out _ hH).mono ?_
   rintro e w2 ⟨rfl, h1⟩
   refine hK.out _ _ ⟨_, rfl⟩ (hH.next h1) (fun hH2 => ?_)
   clear hK K' hH h1
   have hH := hH2
   clear hH2
   (try simp only [fillA, Act.put, List.setIfInBounds_toArray, List.set_cons_zero, List.set_cons_succ])
   refine oneH 10 (oi := _) (some 30) (by kernel_rfl) rfl rfl rfl (fun K' hK => ?_)
   refine ⟨?_⟩
   rw [if_pos (by rfl)]
   go_simp
   refine (C2.out _ hH).mono ?_
   rintro e w2 ⟨rfl, h1⟩
   refine hK.out _ _ ⟨_, rfl⟩ (hH.next h1) (fun hH2 => ?_)
   clear hK K' hH h1
   have hH := hH2
   clear hH2
   (try simp only [fillA, Act.put, List.setIfInBounds_toArray, List.set_cons_zero, List.set_cons_succ])
   refine oneH 11 (oi := _) (some 31) (by kernel_rfl) rfl rfl rfl (fun K' hK => ?_)
   refine ⟨?_⟩
   rw [if_pos (by rfl)]
   go_simp
   refine (NH.out _).mono ?_
   rintro e w2 ⟨rfl, h1⟩
   refine hK.out _ _ ⟨_, rfl⟩ (hH.next h1) (fun hH2 => ?_)
   clear hK K' hH h1
   have hH := hH2
   clear hH2
   (try simp only [fillA, Act.put, List.setIfInBounds_toArray, List.set_cons_zero, List.set_cons_succ])
   refine takeH (i := 12) (oi := _) (v := .string R) (some 4) rfl rfl (by kernel_rfl) (by kernel_rfl) (by kernel_rfl) (fun _ a b _ e h => by cases a; cases b; cases e; exact h) (Or.inl ⟨by rfl, ?yz910⟩) hH ?rz910
   case yz910 => intro w' hS'; go_simp; try with_reducible rfl
   (try simp only [fillA, Act.put, List.setIfInBounds_toArray, List.set_cons_zero, List.set_cons_succ])
   have he2 := hH
   clear hH
   refine wpAnyH_done (by kernel_rfl) ?_ _
   go_wp2_with fail
   go_ret
   exact ⟨ret_str E.out.symm, he2⟩
end Go.Proofs.YtlgdghpnfclgpaaGreat
