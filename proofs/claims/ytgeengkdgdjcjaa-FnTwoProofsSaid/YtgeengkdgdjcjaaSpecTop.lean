/-
  SpecTop: No condition.
-/
import Derived.Test.YtgeengkdgdjcjaaMixIn
import Derived.Test.YtgeengkdgdjcjaaPadOf
namespace Go.Proofs.Ytgeengkdgdjcjaa
set_option maxHeartbeats 2000000
set_option maxRecDepth 100000
set_option linter.unusedSimpArgs false
open Go.RowKit
set_option linter.unusedVariables false
def intsOf (s : ByteArray) : List Int := s.data.toList.map fun c => (c.toNat : Int)
theorem intsOf_len (s : ByteArray) : (intsOf s).length = s.size := by rw [intsOf, List.length_map, Array.length_toList]; rfl
theorem intsOf_append (a b : ByteArray) : intsOf (a ++ b) = intsOf a ++ intsOf b := by simp [intsOf, ByteArray.data_append]
theorem ofInts_intsOf (s : ByteArray) : ofInts (intsOf s) = s := by
 obtain ⟨⟨l⟩⟩ := s
 simp only [ofInts, intsOf, List.map_map]
 congr 2
 conv => rhs; rw [← List.map_id l]
 apply List.map_congr_left
 intro c _
 simp
theorem intsOf_rng (s : ByteArray) : ∀ x ∈ intsOf s, 0 ≤ x ∧ x < 256 := by
 intro x hx
 obtain ⟨c, _, rfl⟩ := List.mem_map.1 hx
 have := c.toNat_lt
 omega
theorem bvals_append (a b : List Int) : bvals (a ++ b) = bvals a ++ bvals b := by simp [bvals]
theorem intsOf_get {s : ByteArray} {j : Nat} (h : j < s.size) : (bvals (intsOf s))[j]? = some (.int .u8 (s[j].toNat : Int)) := by
 have h' : j < s.data.toList.length := by simpa using h
 simp only [bvals, intsOf, List.getElem?_map, List.getElem?_eq_getElem h', Option.map_some]
 rfl
theorem bvals_one (l : List Int) : ∀ u ∈ bvals l, u.oneCell' = true := by
 intro u hu
 obtain ⟨x, _, rfl⟩ := List.mem_map.1 hu
 rfl
theorem specTextOf_any (A : Option Addr) (c : Nat) (l : List Int) (w : World) (hr : ReadsL w w.heap.size wcells 1 A l) (h32 : W32 l) (hl : l.length ≤ 1000) (hl0 : 0 < l.length) :
 Calls Try.prog 54 #[.slice A l.length c] w fun e w' => e = .returned (.tuple #[.string (textW l), .bool true]) ∧ Ext w w' := by
 obtain ⟨i0, hinf, hz0, hz1, hz2⟩ := info_parts info_u8
 obtain ⟨g, off, rfl, hg, hc⟩ := hr.2 hl0
 rw [wvals_flat] at hc
 have Hc := hU hc
 clear hc hr
 have H0 := hU (ownsRow_empty w 5 1)
 have He := hU (Ext.new (Below.refl w.heap.size w) (.cells #[] 5))
 go_enter Try.func54, Try.ntmps54
 go_wp2_with fail
 obtain ⟨B, hB⟩ : ∃ B, B = w.heap.size := ⟨_, rfl⟩
 rw [← hB] at H0 hg
 rw [← hB]
 have Hb : w.heap.size ≤ B := by omega
 have HB := hU hB
 clear hB
 go_loopw [4, 5] (fun v x wr => ∃ k : Nat, k ≤ l.length ∧ x = .int .i64 k ∧ OwnB B wr v (4 * k) (intsOf (textW (l.take k))) ∧ Ext w wr) (fun _ x _ => l.length - (intOf x).toNat)
 case atStart => exact ⟨0, Nat.zero_le _, rfl, H0.out, He.out⟩
 case round =>
  clear H0 He
  obtain ⟨k, hk, rfl, hown, he⟩ := hrel
  obtain ⟨A', c', rfl, hnc⟩ := ownsRow_form hown
  have KO := hU hown
  clear hown
  by_cases hlt : k < l.length
  · have hdk : decide ((k : Int) < (l.length : Int)) = true := by rw [decide_eq_true_eq]; omega
    have c0 : wr.cell? ⟨g, off + k, none⟩ = some (.int .u32 (gw l k)) := (he.cell (p := ⟨g, off + k, none⟩) (by rw [← HB.out]; exact hg)).trans (Hc.out k _ (wvals_get hlt))
    obtain ⟨h0, h1⟩ := gw_rng h32 k
    have hdl : l[k]? = some (gw l k) := gw_get hlt
    have hsn : textW (l.take (k + 1)) = textW (l.take k) ++ wtext (gw l k) := by
     rw [List.take_succ_eq_append_getElem hlt, textW_snoc]
     have : l[k] = gw l k := by rw [List.getElem?_eq_getElem hlt] at hdl; simpa using hdl
     rw [this]
    obtain ⟨x, hx⟩ : ∃ x, x = gw l k := ⟨_, rfl⟩
    rw [← hx] at c0 h0 h1 hsn
    have Hn : Hid (bvals (intsOf (textW (l.take k))) ++ bvals (intsOf (wtext x)) = bvals (intsOf (textW (l.take (k + 1))))) := hU (by rw [← bvals_append, ← intsOf_append, hsn])
    clear hx hsn hdl
    go_wp2_with fail
    refine (specWordText_any x _ h0 h1).mono ?_
    rintro e w1 ⟨rfl, e1⟩
    have he1 := he.next e1
    have KO1 := hU (ownsRow_ext KO.out e1)
    obtain ⟨cap, w2, hrun, e2, hcell⟩ := to_bytes (P := Try.prog) (wtext x) Try.underlying9 Try.underlying22 Try.underlying5 w1
    rw [wtext_size] at hrun
    have he2 := he1.next e2
    have KO2 := hU (ownsRow_ext KO1.out e2)
    have hnews : Hid (∀ j u, (bvals (intsOf (wtext x)))[j]? = some u → w2.cell? ((⟨w1.heap.size, 0, none⟩ : Addr).add j) = some u) := hU (by
     intro j u hu
     have hj : j < (wtext x).size := by
      have := (List.getElem?_eq_some_iff.1 hu).1
      rwa [bvals_len, intsOf_len] at this
     rw [intsOf_get hj] at hu
     rw [add_mk, Nat.zero_add, hcell j hj, hu])
    have hB2 : B ≤ w2.heap.size := by have := he2.size; have := HB.out; omega
    clear c0 he e1 KO KO1 he1 e2 hcell
    go_wp2_with (at_builtin; refine wpList_append_own _ rfl _ _ 22 rfl B 5 i0 (.int .u8 0) 1 1 Try.underlying22 hinf hz0 hz1 hz2 rfl (by decide) _ _ _ rfl KO2.out ⟨w1.heap.size, 0, none⟩ 4 cap (bvals (intsOf (wtext x))) rfl ?c0 ?c1 ?c2 ?c3 ?c4 ?c5 ?_)
    case c0 => rw [bvals_len, intsOf_len, wtext_size]
    case c1 => exact hnews.out
    case c2 => exact bvals_one _
    case c3 => unfold maxLen; omega
    case c4 => omega
    case c5 => exact hB2
    intro v' w3 hown' hgrow _
    have he3 := Ext.ownGrown he2 KO2.out hgrow Hb
    rw [Hn.out] at hown'
    have KO' := hU (show OwnB B w3 v' (4 * (k + 1)) (intsOf (textW (l.take (k + 1)))) from hown')
    clear hown' hgrow KO2 he2 hnews hrun
    go_wp2_with fail
    go_roundw
    case rel => exact ⟨k + 1, by omega, by go_num, KO'.out, he3⟩
    case measure => simp [intOf]; omega
  · have hkl : k = l.length := by omega
    have hdk : decide ((k : Int) < (l.length : Int)) = false := by rw [decide_eq_false_iff_not]; omega
    have hown := KO.out
    rw [List.take_of_length_le (by omega)] at hown
    have hconv := own_string (n := 4 * k) (by rw [intsOf_len, textW_size, hkl]) hown (by omega) (intsOf_rng _)
    rw [ofInts_intsOf] at hconv
    clear hown KO hkl
    go_wp2_with fail
    go_ret2
    exact ⟨rfl, he⟩
theorem specTextOf8_any (A : Option Addr) (c : Nat) (l : List Int) (w : World) (hr : ReadsL w w.heap.size wcells 1 A l) (h32 : W32 l) (hl : l.length = 8) :
 Calls Try.prog 54 #[.slice A 8 c] w fun e w' => e = .returned (.tuple #[.string (textW l), .bool true]) ∧ Ext w w' := by
 have := specTextOf_any A c l w hr h32 (by omega) (by omega)
 rw [hl] at this
 exact this
theorem l02First_any (n : Int) (A : Option Addr) (c : Nat) (s : List Int) (w : World) (hr : ReadsL w w.heap.size wcells 1 A s) (hs : s.length = 8) (ws : W32 s) (h0 : 1 ≤ n) (h1 : n ≤ 32) :
 Calls Try.prog 44 #[.int .i64 n, .slice A 8 c] w fun e w' => e = .returned (.string ((textW s).extract 0 n.toNat)) ∧ Ext w w' := by
 have hsz : (textW s).size = 32 := by rw [textW_size, hs]
 obtain ⟨T, hT⟩ : ∃ T, T = textW s := ⟨_, rfl⟩
 rw [← hT] at hsz
 rw [← hT]
 have HT := hU hT
 clear hT
 obtain ⟨m, rfl⟩ := Int.eq_ofNat_of_zero_le (show 0 ≤ n by omega)
 rw [Int.toNat_natCast]
 have hm : m ≤ T.size := by omega
 have hm2 : (m : Int) ≤ (T.size : Int) := by omega
 go_enter Try.func44, Try.ntmps44
 go_wp2_with fail
 refine (specTextOf8_any A c s _ hr ws hs).mono ?_
 rintro e w1 ⟨he1, h1⟩
 rw [← HT.out] at he1
 subst he1
 go_wp2_with fail
 go_ret
 exact ⟨rfl, h1⟩
theorem byt_part (T : ByteArray) (a b j : Nat) (h : a + j < b) (hb : b ≤ T.size) : byt (T.extract a b) j = byt T (a + j) := by
 unfold byt
 have h0 : a + j < T.size := by omega
 have h1 : j < (T.extract a b).size := by rw [ByteArray.size_extract]; omega
 rw [dif_pos h0, dif_pos h1, ByteArray.getElem_extract]
theorem wordsT_part (T : ByteArray) (a : Nat) (h : a + 64 ≤ T.size) : wordsT (T.extract a (a + 64)) 16 = blockW T a := by
 unfold wordsT blockW
 apply List.map_congr_left
 intro i hi
 have hi' : i < 16 := by simpa using hi
 simp only [wordI]
 rw [byt_part _ _ _ _ (by omega) h, byt_part _ _ _ _ (by omega) h, byt_part _ _ _ _ (by omega) h, byt_part _ _ _ _ (by omega) h]
 simp only [Nat.add_assoc]
theorem ReadsL_own {W w : World} {v : Value} {l : List Int} (h : OwnW W w v l) : ∃ A c, v = .slice A l.length c ∧ ReadsL w w.heap.size wcells 1 A l := by
 obtain ⟨A, c, rfl, _⟩ := ownsRow_form h
 refine ⟨A, c, rfl, ?_⟩
 unfold ReadsL
 rw [wvals_flat]
 exact Reads.of_own h
def State8 (w : World) (v : Value) (l : List Int) : Prop := ∃ A c, v = .slice A 8 c ∧ ReadsL w w.heap.size wcells 1 A l
theorem State8.of_own {W w : World} {v : Value} {l : List Int} (h : OwnW W w v l) (hl : l.length = 8) : State8 w v l := by
 obtain ⟨A, c, hv, hr⟩ := ReadsL_own h
 rw [hl] at hv
 exact ⟨A, c, hv, hr⟩
theorem l02Mixed_any (v : Value) (s : List Int) (T : ByteArray) (w : World) (hs : s.length = 8) (ws : W32 s) (hv : State8 w v s) (hT : T.size ≤ 1048576) :
 Calls Try.prog 45 #[v, .string T] w fun e w' => ∃ v', e = .returned v' ∧ State8 w' v' (mixT T s (T.size / 64)) ∧ Ext w w' := by
 obtain ⟨A, c, rfl, hr⟩ := hv
 go_enter Try.func45, Try.ntmps45
 go_wp2_with fail
 go_loopw [0, 5] (fun v x wr => ∃ k : Nat, 64 * k ≤ T.size ∧ x = .int .i64 (64 * (k : Int)) ∧ State8 wr v (mixT T s k) ∧ Ext w wr) (fun _ x _ => T.size - (intOf x).toNat)
 case atStart => exact ⟨0, by omega, rfl, ⟨A, c, rfl, hr⟩, Below.refl _ _⟩
 case round =>
  clear hr
  obtain ⟨k, hk, rfl, ⟨A', c', rfl, hr⟩, he⟩ := hrel
  have KR := hU hr
  clear hr
  by_cases hlt : 64 * k + 64 ≤ T.size
  · have hdk : decide (64 * (k : Int) + 64 ≤ (T.size : Int)) = true := by rw [decide_eq_true_eq]; omega
    have hle1 : 64 * (k : Int) ≤ 64 * (k : Int) + 64 := by omega
    have hle2 : 64 * (k : Int) + 64 ≤ (T.size : Int) := by omega
    have n1 : (64 * (k : Int)).toNat = 64 * k := by omega
    have n2 : (64 * (k : Int) + 64).toNat = 64 * k + 64 := by omega
    obtain ⟨P, hP⟩ : ∃ P, P = T.extract (64 * k) (64 * k + 64) := ⟨_, rfl⟩
    have HPs : Hid (P.size = 4 * 16) := hU (by rw [hP, ByteArray.size_extract]; omega)
    have HPw : Hid (wordsT P 16 = blockW T (64 * k)) := hU (by rw [hP, wordsT_part T (64 * k) hlt])
    have HP := hU hP
    clear hP
    go_wp2_with fail
    rw [← HP.out]
    refine (WordsOf_any P 16 _ HPs.out (by have := HPs.out; omega)).mono ?_
    rintro e w1 ⟨vb, rfl, ob, e1⟩
    rw [HPw.out] at ob
    obtain ⟨Ab, cb, rfl, rb⟩ := ReadsL_own ob
    rw [blockW_len]
    have KB := hU rb
    have KR1 := hU (KR.out.ext e1)
    have he1 := he.next e1
    clear ob rb KR he e1
    go_wp2_with fail
    refine (MixIn_any A' Ab c' cb (mixT T s k) (blockW T (64 * k)) _ (by rw [mixT_len, hs]) (blockW_len _ _) (mixT_32 T ws k) (blockW_32 _ _) KR1.out KB.out).mono ?_
    rintro e w2 ⟨vm, rfl, om, e2⟩
    have KS := hU (show State8 w2 vm (mixT T s (k + 1)) from State8.of_own om (by rw [mixT_len, hs]))
    have he2 := he1.next e2
    clear om e2 he1 KR1 KB
    go_wp2_with fail
    go_roundw
    case rel => exact ⟨k + 1, by omega, by go_num, KS.out, he2⟩
    case measure => simp [intOf]; omega
  · have hdk : decide (64 * (k : Int) + 64 ≤ (T.size : Int)) = false := by rw [decide_eq_false_iff_not]; omega
    have hkk : k = T.size / 64 := by omega
    have HS : Hid (State8 wr (.slice A' 8 c') (mixT T s (T.size / 64))) := hU (by rw [← hkk]; exact ⟨A', c', rfl, KR.out⟩)
    clear hkk KR
    go_wp2_with fail
    go_ret
    exact ⟨_, rfl, HS.out, he⟩
end Go.Proofs.Ytgeengkdgdjcjaa
