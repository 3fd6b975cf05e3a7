/-
  HashTop: No condition.
-/
import Derived.Test.YtgeengkdgdjcjaaHashImpl
import Derived.Test.YtgeengkdgdjcjaaShelf
import Derived.Test.YtgeengkdgdjcjaaOwn
namespace Go.Proofs.Ytgeengkdgdjcjaa
set_option maxHeartbeats 2000000
set_option maxRecDepth 100000
set_option linter.unusedSimpArgs false
open Go.RowKit
set_option linter.unusedVariables false
theorem builderAt_ext {T e : TypeId} {B b : Nat} {p : Value} {bs : List Value} {w w' : World} (h : Lib.BuilderAt T e B b p bs w) (he : Ext w w') : Lib.BuilderAt T e B b p bs w' := by
 obtain ⟨h1, v, h2, h3, h4⟩ := h
 exact ⟨h1, v, (he.block b (Blk.lt (t := T) (cs := #[p, v]) h2)).trans h2, ownsRow_ext h3 he, h4⟩
theorem isBuilder_ext {T e : TypeId} {B b : Nat} {bs : List Value} {w w' : World} (h : Lib.IsBuilder T e B b bs w) (he : Ext w w') : Lib.IsBuilder T e B b bs w' := by
 rcases h with h | h
 · exact .inl (builderAt_ext h he)
 · exact .inr (builderAt_ext h he)
def bstr (s : ByteArray) : List Value := Lib.byteCells s.data.toList
theorem bstr_append (a b : ByteArray) : bstr (a ++ b) = bstr a ++ Lib.strCells b := by
 simp [bstr, Lib.byteCells, Lib.strCells, ByteArray.data_append]
theorem bstr_len (a : ByteArray) : (bstr a).length = a.size := by rw [bstr, Lib.byteCells_length, Array.length_toList]; rfl
def wcells (x : Int) : List Value := [.int .u32 x]
theorem wcells_length (x : Int) : (wcells x).length = 1 := rfl
theorem wcells_flat (l : List Int) : l.flatMap wcells = l.map wcell := by
 induction l with
 | nil => rfl
 | cons a l ih => rw [List.flatMap_cons, ih]; rfl
theorem TextOf_any (A : Option Addr) (c : Nat) (l : List Int) (w : World) (hr : ReadsL w w.heap.size wcells 1 A l) (h32 : W32 l) (hl : l.length ≤ 1000) :
 Calls Try.prog 59 #[.slice A l.length c] w fun e w' => e = .returned (.tuple #[.string (textW l), .bool true]) ∧ Ext w w' := by
 have hfresh := hU (Lib.fresh_isBuilder 104 5 w)
 have He := hU (Ext.new (Below.refl w.heap.size w) (.cells #[.pointer none, .slice none 0 0] 104))
 go_enter Try.func59, Try.ntmps59
 go_wp2_with fail
 obtain ⟨b, hb⟩ : ∃ b, b = w.heap.size := ⟨_, rfl⟩
 rw [← hb] at hfresh
 rw [← hb]
 have hr' : ReadsL w b wcells 1 A l := by rw [hb]; exact hr
 have He2 : ∀ w', Ext w w' → Below b w w' := fun w' h => by rw [hb]; exact h
 have He3 : ∀ w1 w', Below b w w1 → Below b w1 w' → Below b w w' := fun w1 w' h k => h.trans k
 have Hb := hU hb
 have HA := hU (He2 _ He.out)
 clear hb hr He2 He He3
 go_loopw [12] (fun x wr => ∃ (k : Nat), k ≤ l.length ∧ x = .int .i64 k ∧ Lib.IsBuilder 104 5 b b (bstr (textW (l.take k))) wr ∧ Below b w wr ∧ b ≤ wr.heap.size) (fun x _ => l.length - (intOf x).toNat)
 case atStart => exact ⟨0, Nat.zero_le _, rfl, hfresh.out, HA.out, by have := Hb.out; simp; omega⟩
 case round =>
  obtain ⟨k, hk, rfl, hB, he, hbs⟩ := hrel
  clear hfresh HA
  have KB := hU hB
  clear hB
  by_cases hlt : k < l.length
  · have hdk : decide ((k : Int) < (l.length : Int)) = true := by rw [decide_eq_true_eq]; omega
    obtain ⟨g, off, rfl, hg, hc⟩ := (hr'.below he).at_ (k := k) hlt
    have hdl : l[k]? = some (gw l k) := gw_get hlt
    have c0 := hc 0 _ (flat_at _ 1 wcells_length l k 0 _ hdl (by omega))
    rw [Nat.add_zero, Nat.mul_one] at c0
    obtain ⟨h0, h1⟩ := gw_rng h32 k
    have hsn : textW (l.take (k + 1)) = textW (l.take k) ++ wtext (gw l k) := by
     rw [List.take_succ_eq_append_getElem hlt, textW_snoc]
     have : l[k] = gw l k := by rw [List.getElem?_eq_getElem hlt] at hdl; simpa using hdl
     rw [this]
    have Hsn := hU hsn
    have hsz : (textW (l.take k)).size ≤ 4000 := by rw [textW_size, List.length_take]; omega
    obtain ⟨x, hx⟩ : ∃ x, x = gw l k := ⟨_, rfl⟩
    rw [← hx] at c0 h0 h1 Hsn
    clear hx hc hsn hdl
    go_wp2_with fail
    refine (WordText_any x _ h0 h1).mono ?_
    rintro e w1 ⟨rfl, e1⟩
    have hB1 := isBuilder_ext KB.out e1
    have he1 := he.trans (e1.mono hbs)
    have hbs1 : b ≤ w1.heap.size := Nat.le_trans hbs e1.size
    clear c0 KB he hbs e1
    go_wp2_with fail
    refine (WriteString_any b b _ (wtext x) _ hB1 (by rw [bstr_len, wtext_size]; omega) hbs1).mono ?_
    rintro e w2 ⟨rfl, hB2, e2⟩
    have hB3 : Lib.IsBuilder 104 5 b b (bstr (textW (l.take (k + 1)))) w2 := by rw [Hsn.out, bstr_append]; exact .inr hB2
    have KB := hU hB3
    have he2 := he1.trans e2
    have hbs2 : b ≤ w2.heap.size := Nat.le_trans hbs1 e2.size
    clear hB1 hB2 hB3 he1 e2 hbs1
    go_wp2_with fail
    go_roundw
    case rel => exact ⟨k + 1, by omega, by go_num, KB.out, he2, hbs2⟩
    case measure => simp [intOf]; omega
  · have hB := KB.out
    rw [List.take_of_length_le (by omega)] at hB
    have hdk : decide ((k : Int) < (l.length : Int)) = false := by rw [decide_eq_false_iff_not]; omega
    clear KB
    go_wp2_with fail
    refine (BuilderString_any b b _ _ hB hbs).mono ?_
    rintro e w2 ⟨rfl, e2⟩
    have he2 := he.trans e2
    clear hB e2 he
    go_wp2_with fail
    go_ret2
    exact ⟨rfl, by rw [Hb.out] at he2; exact he2⟩
theorem ReadsL_wrow {w : World} {g t : Nat} {l : List Int} (h : Blk w g t (wrow l)) : ReadsL w w.heap.size wcells 1 (some ⟨g, 0, none⟩) l := by
 refine Blk.readsL (t := t) wcells_length ?_
 rw [wcells_flat]
 exact h
theorem TextOf8_any (A : Option Addr) (c : Nat) (l : List Int) (w : World) (hr : ReadsL w w.heap.size wcells 1 A l) (h32 : W32 l) (hl : l.length = 8) :
 Calls Try.prog 59 #[.slice A 8 c] w fun e w' => e = .returned (.tuple #[.string (textW l), .bool true]) ∧ Ext w w' := by
 have := TextOf_any A c l w hr h32 (by omega)
 rw [hl] at this
 exact this
theorem chainText_any (n : Int) (s : List Int) (w : World) (hs : s.length = 8) (ws : W32 s) (h0 : 1 ≤ n) (h1 : n ≤ 32) :
 Calls Try.prog 50 #[.int .i64 n, .agg (wrow s)] w fun e w' => e = .returned (.string ((textW s).extract 0 n.toNat)) ∧ Ext w w' := by
 obtain ⟨a0, a1, a2, a3, a4, a5, a6, a7, rfl⟩ := list8 hs
 obtain ⟨s, hsd⟩ : ∃ s, s = [a0, a1, a2, a3, a4, a5, a6, a7] := ⟨_, rfl⟩
 have es : wrow [a0, a1, a2, a3, a4, a5, a6, a7] = #[.int .u32 a0, .int .u32 a1, .int .u32 a2, .int .u32 a3, .int .u32 a4, .int .u32 a5, .int .u32 a6, .int .u32 a7] := rfl
 rw [← hsd] at hs ws es
 rw [← hsd, es]
 have B := Blk.new w 83 (wrow s)
 have HR := hU (ReadsL_wrow B)
 rw [es] at HR
 have He := hU (Ext.new (Below.refl w.heap.size w) (.cells #[.int .u32 a0, .int .u32 a1, .int .u32 a2, .int .u32 a3, .int .u32 a4, .int .u32 a5, .int .u32 a6, .int .u32 a7] 83))
 have hsz : (textW s).size = 32 := by rw [textW_size, hs]
 clear B es hsd
 obtain ⟨T, hT⟩ : ∃ T, T = textW s := ⟨_, rfl⟩
 rw [← hT] at hsz
 rw [← hT]
 have HT := hU hT
 clear hT
 obtain ⟨m, rfl⟩ := Int.eq_ofNat_of_zero_le (show 0 ≤ n by omega)
 rw [Int.toNat_natCast]
 have hm : m ≤ T.size := by omega
 have hm2 : (m : Int) ≤ (T.size : Int) := by omega
 go_enter Try.func50, Try.ntmps50
 go_wp2_with fail
 refine (TextOf8_any (some ⟨w.heap.size, 0, none⟩) 8 s _ HR.out ws hs).mono ?_
 rintro e w1 ⟨he1, h1⟩
 rw [← HT.out] at he1
 subst he1
 have he := Ext.next He.out h1
 go_wp2_with fail
 go_ret
 exact ⟨rfl, he⟩
theorem repeat_zero (n : Nat) : (⟨(Lib.repeatL [(0 : UInt8)] n).toArray⟩ : ByteArray) = zeroB n := by
 have : ∀ n, Lib.repeatL [(0 : UInt8)] n = List.replicate n 0 := by
  intro n
  induction n with
  | zero => rfl
  | succ n ih => rw [Lib.repeatL, ih]; rfl
 rw [this]; rfl
theorem padOf_any (n : Int) (w : World) (h0 : 0 ≤ n) (h1 : n ≤ 4000) :
 Calls Try.prog 53 #[.int .i64 n] w fun e w' => e = .returned (.string (padT n.toNat)) ∧ Ext w w' := by
 obtain ⟨m, rfl⟩ := Int.eq_ofNat_of_zero_le h0
 rw [Int.toNat_natCast]
 have hz : ((119 - (m : Int)) % 64).toNat = padZ m := by unfold padZ; omega
 have Hz := hU hz
 have zs : (zeroB (padZ m)).size ≤ 64 := by rw [zeroB_size]; unfold padZ; omega
 have p1 : (⟨#[128]⟩ : ByteArray).size ≤ 1 := Nat.le_refl _
 have p2 : (wtext 0).size ≤ 4 := Nat.le_refl _
 have p3 : (wtext (m : Int)).size ≤ 4 := Nat.le_refl _
 have P := hU (show padT m = ⟨#[128]⟩ ++ zeroB (padZ m) ++ wtext 0 ++ wtext (m : Int) from rfl)
 have hd : (m : Int) / 4294967296 = 0 := by omega
 clear hz
 go_enter Try.func53, Try.ntmps53
 go_wp2_with fail
 refine (Repeat_any _ _ _ (by omega) (by omega) (by decide)).mono ?_
 rintro e w1 ⟨rfl, he⟩
 rw [Hz.out, repeat_zero]
 go_wp2_with fail
 refine (WordText_any _ _ (by omega) (by omega)).mono ?_
 rintro e w2 ⟨rfl, h1⟩
 replace he := he.next h1; clear h1
 go_wp2_with fail
 refine (WordText_any _ _ (by omega) (by omega)).mono ?_
 rintro e w3 ⟨rfl, h1⟩
 replace he := he.next h1; clear h1
 go_wp2_with fail
 go_ret
 exact ⟨ret_str P.out.symm, he⟩
theorem isWidth_any (n : Int) (w : World) : Calls Try.prog 26 #[.int .i64 n] w fun e w' => e = .returned (.bool (inR n 1 32)) ∧ w = w' := by
 go_enter Try.func26, Try.ntmps26
 go_wp2_with (go_at_call 40; refine (inRange_any _ _ _ _).mono ?_; rintro e w' ⟨rfl, rfl⟩)
 go_ret
 exact ⟨rfl, rfl⟩
theorem isTag_any (n : Int) (w : World) : Calls Try.prog 49 #[.int .i64 n] w fun e w' => e = .returned (.bool (inR n 0 255)) ∧ w = w' := by
 go_enter Try.func49, Try.ntmps49
 go_wp2_with (go_at_call 40; refine (inRange_any _ _ _ _).mono ?_; rintro e w' ⟨rfl, rfl⟩)
 go_ret
 exact ⟨rfl, rfl⟩
theorem digest_no {width tag : Int} {T : ByteArray} (h : digestOk width tag T = false) : digest width tag T = ⟨#[]⟩ := by simp [digest, h]
theorem digest_yes {width tag : Int} {T : ByteArray} (h : digestOk width tag T = true) : digest width tag T = digestT width.toNat tag T := by simp [digest, h]
theorem Digest_any (width tag : Int) (T : ByteArray) (w : World) (hT : T.size ≤ maxLen) :
 Calls Try.prog 41 #[.int .i64 width, .int .i64 tag, .string T] w fun e w' => e = .returned (.tuple #[.string (digest width tag T), .bool (digestOk width tag T)]) ∧ Ext w w' := by
 unfold maxLen at hT
 cases b1 : inR width 1 32
 · have Ho := hU (show digestOk width tag T = false by simp [digestOk, b1])
   rw [digest_no Ho.out, Ho.out]
   go_enter Try.func41, Try.ntmps41
   go_wp2_with (first | (go_at_call 26; refine (isWidth_any _ _).mono ?_; rintro e w' ⟨rfl, rfl⟩) | (go_at_call 49; refine (isTag_any _ _).mono ?_; rintro e w' ⟨rfl, rfl⟩))
   go_ret2
   exact ⟨rfl, Below.refl _ _⟩
 cases b2 : inR tag 0 255
 · have Ho := hU (show digestOk width tag T = false by simp [digestOk, b2])
   rw [digest_no Ho.out, Ho.out]
   go_enter Try.func41, Try.ntmps41
   go_wp2_with (first | (go_at_call 26; refine (isWidth_any _ _).mono ?_; rintro e w' ⟨rfl, rfl⟩) | (go_at_call 49; refine (isTag_any _ _).mono ?_; rintro e w' ⟨rfl, rfl⟩))
   go_ret2
   exact ⟨rfl, Below.refl _ _⟩
 by_cases b3 : T.size ≤ 4000
 case neg =>
  have Ho := hU (show digestOk width tag T = false by simp [digestOk, b3])
  rw [digest_no Ho.out, Ho.out]
  have hd : decide ((4000 : Int) < (T.size : Int)) = true := by rw [decide_eq_true_eq]; omega
  go_enter Try.func41, Try.ntmps41
  go_wp2_with (first | (go_at_call 26; refine (isWidth_any _ _).mono ?_; rintro e w' ⟨rfl, rfl⟩) | (go_at_call 49; refine (isTag_any _ _).mono ?_; rintro e w' ⟨rfl, rfl⟩))
  go_ret2
  exact ⟨rfl, Below.refl _ _⟩
 have Ho := hU (show digestOk width tag T = true by simp [digestOk, b1, b2, b3])
 have hd : decide ((4000 : Int) < (T.size : Int)) = false := by rw [decide_eq_false_iff_not]; omega
 obtain ⟨w0, w1⟩ := inR_true b1
 obtain ⟨t0, t1⟩ := inR_true b2
 obtain ⟨fin, hfin⟩ : ∃ fin, fin = digestT width.toNat tag T := ⟨_, rfl⟩
 rw [digest_yes Ho.out, Ho.out, ← hfin]
 have Hf := hU (show (textW (mixT (T ++ padT T.size) (startW tag) ((T.size + (padT T.size).size) / 64))).extract 0 width.toNat = fin by rw [hfin, digestT, ByteArray.size_append])
 have hps : (padT T.size).size ≤ 73 := by rw [padT_size]; unfold padZ; omega
 clear hfin
 go_enter Try.func41, Try.ntmps41
 go_wp2_with (first | (go_at_call 26; refine (isWidth_any _ _).mono ?_; rintro e w' ⟨rfl, rfl⟩) | (go_at_call 49; refine (isTag_any _ _).mono ?_; rintro e w' ⟨rfl, rfl⟩))
 refine (firstState_any tag _ t0 t1).mono ?_
 rintro e w2 ⟨rfl, he⟩
 go_wp2_with fail
 refine (padOf_any _ _ (by omega) (by omega)).mono ?_
 rintro e w3 ⟨rfl, h1⟩
 replace he := he.next h1; clear h1
 rw [Int.toNat_natCast]
 go_wp2_with fail
 refine (mixAll_any (startW tag) (T ++ padT T.size) _ (startW_len tag) (startW_32 tag) (by rw [ByteArray.size_append]; omega)).mono ?_
 rintro e w4 ⟨rfl, h1⟩
 replace he := he.next h1; clear h1
 go_wp2_with fail
 refine (chainText_any width _ _ (by rw [mixT_len, startW_len]) (mixT_32 _ (startW_32 tag) _) w0 w1).mono ?_
 rintro e w5 ⟨rfl, h1⟩
 replace he := he.next h1; clear h1
 rw [Hf.out]
 go_wp2_with fail
 go_ret2
 exact ⟨rfl, he⟩
end Go.Proofs.Ytgeengkdgdjcjaa
