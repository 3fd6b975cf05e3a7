/-
  Shelf; Own; HashTop: No condition.
-/
import Derived.Shelf.Strings.Repeat
import Derived.Test.YtgeengkdgdjcjaaGreatProg
import Derived.Test.YtgeengkdgdjcjaaGreatMem
import Derived.Laws.OwnMore
import Derived.OwnWalk
import Derived.Test.YtgeengkdgdjcjaaGreatHashImpl
namespace Go.Proofs.YtgeengkdgdjcjaaGreat
open Go.Shelf Go.RowKit
set_option linter.unusedSimpArgs false
set_option linter.unusedVariables false
def lays105_ren : Go.Shelf.Ren := ⟨fun | 105 => 234 | 212 => 269 | 99 => 270 | 165 => 271 | 166 => 189 | 170 => 188 | 169 => 190 | 263 => 286 | 264 => 287 | 206 => 288 | 240 => 246 | 241 => 289 | 276 => 281 | 277 => 290 | n => n, fun | 9 => 9 | 3 => 3 | 4 => 4 | 20 => 20 | 0 => 0 | 46 => 170 | 109 => 318 | 5 => 5 | 72 => 240 | 76 => 244 | 51 => 212 | 146 => 330 | 53 => 311 | 148 => 332 | 70 => 238 | 37 => 22 | 75 => 243 | 127 => 298 | 164 => 325 | 80 => 246 | n => n, fun | n => n⟩
theorem lays105 : Go.Proofs.Lays.n105 Tryz.prog lays105_ren := {
 mixed := by kernel_rfl
 f99 := Tryz.func270.trans (congrArg some (by kernel_rfl))
 f105 := Tryz.func234.trans (congrArg some (by kernel_rfl))
 f165 := Tryz.func271.trans (congrArg some (by kernel_rfl))
 f166 := Tryz.func189.trans (congrArg some (by kernel_rfl))
 f169 := Tryz.func190.trans (congrArg some (by kernel_rfl))
 f170 := Tryz.func188.trans (congrArg some (by kernel_rfl))
 f206 := Tryz.func288.trans (congrArg some (by kernel_rfl))
 f212 := Tryz.func269.trans (congrArg some (by kernel_rfl))
 f240 := Tryz.func246.trans (congrArg some (by kernel_rfl))
 f241 := Tryz.func289.trans (congrArg some (by kernel_rfl))
 f263 := Tryz.func286.trans (congrArg some (by kernel_rfl))
 f264 := Tryz.func287.trans (congrArg some (by kernel_rfl))
 f276 := Tryz.func281.trans (congrArg some (by kernel_rfl))
 f277 := Tryz.func290.trans (congrArg some (by kernel_rfl))
 t0 := Tryz.underlying0
 a0 := Tryz.isAgg0
 z0 := Tryz.sizeOf0
 v0 := Tryz.zeroValue0
 t3 := Tryz.underlying3
 a3 := Tryz.isAgg3
 z3 := Tryz.sizeOf3
 v3 := Tryz.zeroValue3
 t4 := Tryz.underlying4
 a4 := Tryz.isAgg4
 z4 := Tryz.sizeOf4
 v4 := Tryz.zeroValue4
 t5 := Tryz.underlying5
 a5 := Tryz.isAgg5
 z5 := Tryz.sizeOf5
 v5 := Tryz.zeroValue5
 t9 := Tryz.underlying9
 a9 := Tryz.isAgg9
 z9 := Tryz.sizeOf9
 v9 := Tryz.zeroValue9
 t20 := Tryz.underlying20
 a20 := Tryz.isAgg20
 z20 := Tryz.sizeOf20
 v20 := Tryz.zeroValue20
 t37 := Tryz.underlying22
 a37 := Tryz.isAgg22
 z37 := Tryz.sizeOf22
 v37 := Tryz.zeroValue22
 t46 := Tryz.underlying170
 a46 := Tryz.isAgg170
 z46 := Tryz.sizeOf170
 v46 := Tryz.zeroValue170
 t51 := Tryz.underlying212
 a51 := Tryz.isAgg212
 z51 := Tryz.sizeOf212
 v51 := Tryz.zeroValue212
 t53 := Tryz.underlying311
 a53 := Tryz.isAgg311
 z53 := Tryz.sizeOf311
 v53 := Tryz.zeroValue311
 t70 := Tryz.underlying238
 a70 := Tryz.isAgg238
 z70 := Tryz.sizeOf238
 v70 := Tryz.zeroValue238
 t72 := Tryz.underlying240
 a72 := Tryz.isAgg240
 z72 := Tryz.sizeOf240
 v72 := Tryz.zeroValue240
 t75 := Tryz.underlying243
 a75 := Tryz.isAgg243
 z75 := Tryz.sizeOf243
 v75 := Tryz.zeroValue243
 t76 := Tryz.underlying244
 a76 := Tryz.isAgg244
 z76 := Tryz.sizeOf244
 v76 := Tryz.zeroValue244
 t109 := Tryz.underlying318
 a109 := Tryz.isAgg318
 z109 := Tryz.sizeOf318
 v109 := Tryz.zeroValue318
 t127 := Tryz.underlying298
 a127 := Tryz.isAgg298
 z127 := Tryz.sizeOf298
 v127 := Tryz.zeroValue298
 t146 := Tryz.underlying330
 a146 := Tryz.isAgg330
 z146 := Tryz.sizeOf330
 v146 := Tryz.zeroValue330
 t148 := Tryz.underlying332
 a148 := Tryz.isAgg332
 z148 := Tryz.sizeOf332
 v148 := Tryz.zeroValue332
 t164 := Tryz.underlying325
 a164 := Tryz.isAgg325
 z164 := Tryz.sizeOf325
 v164 := Tryz.zeroValue325 }
theorem extra105 : Builder.Extra Tryz.prog lays105_ren := {
 sizeBuilder := by kernel_rfl
 liesBuilder := by kernel_rfl
 t5 := Tryz.underlying5
 a5 := Tryz.isAgg5
 z5 := Tryz.sizeOf5
 v5 := Tryz.zeroValue5
 infoByte := by kernel_rfl
 cellsByte := by kernel_rfl
 sizeByte := by kernel_rfl
 neB5 := by decide }
theorem Repeat_any (s : ByteArray) (c : Int) (w : World) (h0 : 0 ≤ c) (hc : c ≤ 1099511627776) (hs : s.size ≤ 100) :
 Calls Tryz.prog 234 #[.string s, .int .i64 c] w fun e w' => e = .returned (.string ⟨(Lib.repeatL s.data.toList c.toNat).toArray⟩) ∧ Ext w w' := by
 obtain ⟨n, rfl⟩ := Int.eq_ofNat_of_zero_le h0
 rw [Int.toNat_natCast]
 have : s.size * n ≤ 100 * n := Nat.mul_le_mul_right _ hs
 exact Any.strings_Repeat lays105 extra105 s n w (by omega) (by omega)
theorem WriteString_any (B b : Nat) (bs : List Value) (s : ByteArray) (w : World) (h : Lib.IsBuilder 240 5 B b bs w) (hlen : bs.length + s.size ≤ 140737488355328) (hBw : B ≤ w.heap.size) :
 Calls Tryz.prog 189 #[.pointer (some ⟨b, 0, none⟩), .string s] w fun e w' => e = .returned (.tuple #[.int .i64 s.size, .nilIface]) ∧ (Lib.BuilderAt 240 5 B b (.pointer (some ⟨b, 0, none⟩)) (bs ++ Lib.strCells s) w' ∧ Below B w w') :=
 Any.Builder_WriteString { lays105 with } extra105 B b bs s w h hlen hBw
theorem BuilderString_any (B b : Nat) (l : List UInt8) (w : World) (h : Lib.IsBuilder 240 5 B b (Lib.byteCells l) w) (hBw : B ≤ w.heap.size) :
 Calls Tryz.prog 190 #[.pointer (some ⟨b, 0, none⟩)] w fun e w' => e = .returned (.string ⟨l.toArray⟩) ∧ Below B w w' :=
 Any.Builder_String_any { lays105 with } extra105 B b l w h hBw
theorem BuilderLen_any (B b : Nat) (bs : List Value) (w : World) (h : Lib.IsBuilder 240 5 B b bs w) :
 Calls Tryz.prog 188 #[.pointer (some ⟨b, 0, none⟩)] w fun e w' => e = .returned (.int .i64 bs.length) ∧ w' = w :=
 Any.Builder_Len { lays105 with } B b bs w h
end Go.Proofs.YtgeengkdgdjcjaaGreat
namespace Go.Proofs.YtgeengkdgdjcjaaGreat
set_option linter.unusedSimpArgs false
open Go.RowKit
set_option linter.unusedVariables false
theorem Ext.ownGrown {W w w' : World} {B e size n : Nat} {v : Value} {xs : List Value} (he : Ext W w) (hown : w.ownsRow B e size v n xs) (hg : w.grownBy w' v.ownBlock) (hB : W.heap.size ≤ B) : Ext W w' :=
 Below.grown he hg he.size (fun k hk => Nat.le_trans hB (hown.lt k hk).1)
theorem ownsRow_ext {w w' : World} {B e size n : Nat} {v : Value} {xs : List Value} (h : w.ownsRow B e size v n xs) (he : Ext w w') : w'.ownsRow B e size v n xs := by
 refine ⟨h.1, ?_⟩
 rcases h.2 with h1 | ⟨g, cap, cur, hv, hg, hh, hrest⟩
 · exact .inl h1
 · exact .inr ⟨g, cap, cur, hv, hg, (he.block g (Blk.lt (t := e) (cs := cur) hh)).trans hh, hrest⟩
theorem ownsRow_form {w : World} {B e size n : Nat} {v : Value} {xs : List Value} (h : w.ownsRow B e size v n xs) : ∃ A c, v = .slice A n c ∧ n ≤ c := by
 rcases h.2 with ⟨h1, h2⟩ | ⟨g, cap, cur, hv, hg, hh, hn, hrest⟩
 · exact ⟨none, 0, by rw [h1, h2], by omega⟩
 · exact ⟨_, cap, hv, hn⟩
theorem ownsRow_base {w : World} {B B' e size n : Nat} {v : Value} {xs : List Value} (h : w.ownsRow B e size v n xs) (hB : B' ≤ B) : w.ownsRow B' e size v n xs := by
 refine ⟨h.1, ?_⟩
 rcases h.2 with h1 | ⟨g, cap, cur, hv, hg, hrest⟩
 · exact .inl h1
 · exact .inr ⟨g, cap, cur, hv, Nat.le_trans hB hg, hrest⟩
theorem one_at (w : World) (u : Value) (t : TypeId) : ∀ j v, [u][j]? = some v → (w.alloc (.cells #[u] t)).cell? ((⟨w.heap.size, 0, none⟩ : Addr).add j) = some v := by
 intro j v hj
 match j, hj with
 | 0, hj =>
   obtain rfl : u = v := by simpa using hj
   rw [add_mk, (Blk.new w t #[u]).cell]; rfl
theorem one_cell {u : Value} (h : u.oneCell' = true) : ∀ v ∈ [u], v.oneCell' = true := by
 intro v hv
 obtain rfl : v = u := by simpa using hv
 exact h
theorem ownsRow_empty (w : World) (e size : TypeId) : (w.alloc (.cells #[] e)).ownsRow w.heap.size e size (.slice (some ⟨w.heap.size, 0, none⟩) 0 0) 0 [] :=
 ⟨by simp, .inr ⟨w.heap.size, 0, #[], rfl, Nat.le_refl _, heap_alloc_new w _, Nat.le_refl _, Nat.zero_le _, by simp, by simp⟩⟩
set_option maxHeartbeats 2000000
set_option maxRecDepth 100000
theorem builderAt_ext {T e : TypeId} {B b : Nat} {p : Value} {bs : List Value} {w w' : World} (h : Lib.BuilderAt T e B b p bs w) (he : Ext w w') : Lib.BuilderAt T e B b p bs w' := by
 obtain ⟨h1, v, h2, h3, h4⟩ := h
 exact ⟨h1, v, (he.block b (Blk.lt (t := T) (cs := #[p, v]) h2)).trans h2, ownsRow_ext h3 he, h4⟩
theorem isBuilder_ext {T e : TypeId} {B b : Nat} {bs : List Value} {w w' : World} (h : Lib.IsBuilder T e B b bs w) (he : Ext w w') : Lib.IsBuilder T e B b bs w' := by
 rcases h with h | h
 · exact .inl (builderAt_ext h he)
 · exact .inr (builderAt_ext h he)
def bstr (s : ByteArray) : List Value := Lib.byteCells s.data.toList
theorem bstr_append (a b : ByteArray) : bstr (a ++ b) = bstr a ++ Lib.strCells b := by
 simp [bstr, Lib.byteCells, Lib.strCells, ByteArray.data_append]
theorem bstr_len (a : ByteArray) : (bstr a).length = a.size := by rw [bstr, Lib.byteCells_length, Array.length_toList]; rfl
def wcells (x : Int) : List Value := [.int .u32 x]
theorem wcells_length (x : Int) : (wcells x).length = 1 := rfl
theorem wcells_flat (l : List Int) : l.flatMap wcells = l.map wcell := by
 induction l with
 | nil => rfl
 | cons a l ih => rw [List.flatMap_cons, ih]; rfl
theorem TextOf_any (A : Option Addr) (c : Nat) (l : List Int) (w : World) (hr : ReadsL w w.heap.size wcells 1 A l) (h32 : W32 l) (hl : l.length ≤ 1000) :
 Calls Tryz.prog 231 #[.slice A l.length c] w fun e w' => e = .returned (.tuple #[.string (textW l), .bool true]) ∧ Ext w w' := by
 have hfresh := hU (Lib.fresh_isBuilder 240 5 w)
 have He := hU (Ext.new (Below.refl w.heap.size w) (.cells #[.pointer none, .slice none 0 0] 240))
 go_enter Tryz.func231, Tryz.ntmps231
 go_wp2_with fail
 obtain ⟨b, hb⟩ : ∃ b, b = w.heap.size := ⟨_, rfl⟩
 rw [← hb] at hfresh
 rw [← hb]
 have hr' : ReadsL w b wcells 1 A l := by rw [hb]; exact hr
 have He2 : ∀ w', Ext w w' → Below b w w' := fun w' h => by rw [hb]; exact h
 have He3 : ∀ w1 w', Below b w w1 → Below b w1 w' → Below b w w' := fun w1 w' h k => h.trans k
 have Hb := hU hb
 have HA := hU (He2 _ He.out)
 clear hb hr He2 He He3
 go_loopw [12] (fun x wr => ∃ (k : Nat), k ≤ l.length ∧ x = .int .i64 k ∧ Lib.IsBuilder 240 5 b b (bstr (textW (l.take k))) wr ∧ Below b w wr ∧ b ≤ wr.heap.size) (fun x _ => l.length - (intOf x).toNat)
 case atStart => exact ⟨0, Nat.zero_le _, rfl, hfresh.out, HA.out, by have := Hb.out; simp; omega⟩
 case round =>
  obtain ⟨k, hk, rfl, hB, he, hbs⟩ := hrel
  clear hfresh HA
  have KB := hU hB
  clear hB
  by_cases hlt : k < l.length
  · have hdk : decide ((k : Int) < (l.length : Int)) = true := by rw [decide_eq_true_eq]; omega
    obtain ⟨g, off, rfl, hg, hc⟩ := (hr'.below he).at_ (k := k) hlt
    have hdl : l[k]? = some (gw l k) := gw_get hlt
    have c0 := hc 0 _ (flat_at _ 1 wcells_length l k 0 _ hdl (by omega))
    rw [Nat.add_zero, Nat.mul_one] at c0
    obtain ⟨h0, h1⟩ := gw_rng h32 k
    have hsn : textW (l.take (k + 1)) = textW (l.take k) ++ wtext (gw l k) := by
     rw [List.take_succ_eq_append_getElem hlt, textW_snoc]
     have : l[k] = gw l k := by rw [List.getElem?_eq_getElem hlt] at hdl; simpa using hdl
     rw [this]
    have Hsn := hU hsn
    have hsz : (textW (l.take k)).size ≤ 4000 := by rw [textW_size, List.length_take]; omega
    obtain ⟨x, hx⟩ : ∃ x, x = gw l k := ⟨_, rfl⟩
    rw [← hx] at c0 h0 h1 Hsn
    clear hx hc hsn hdl
    go_wp2_with fail
    refine (WordText_any x _ h0 h1).mono ?_
    rintro e w1 ⟨rfl, e1⟩
    have hB1 := isBuilder_ext KB.out e1
    have he1 := he.trans (e1.mono hbs)
    have hbs1 : b ≤ w1.heap.size := Nat.le_trans hbs e1.size
    clear c0 KB he hbs e1
    go_wp2_with fail
    refine (WriteString_any b b _ (wtext x) _ hB1 (by rw [bstr_len, wtext_size]; omega) hbs1).mono ?_
    rintro e w2 ⟨rfl, hB2, e2⟩
    have hB3 : Lib.IsBuilder 240 5 b b (bstr (textW (l.take (k + 1)))) w2 := by rw [Hsn.out, bstr_append]; exact .inr hB2
    have KB := hU hB3
    have he2 := he1.trans e2
    have hbs2 : b ≤ w2.heap.size := Nat.le_trans hbs1 e2.size
    clear hB1 hB2 hB3 he1 e2 hbs1
    go_wp2_with fail
    go_roundw
    case rel => exact ⟨k + 1, by omega, by go_num, KB.out, he2, hbs2⟩
    case measure => simp [intOf]; omega
  · have hB := KB.out
    rw [List.take_of_length_le (by omega)] at hB
    have hdk : decide ((k : Int) < (l.length : Int)) = false := by rw [decide_eq_false_iff_not]; omega
    clear KB
    go_wp2_with fail
    refine (BuilderString_any b b _ _ hB hbs).mono ?_
    rintro e w2 ⟨rfl, e2⟩
    have he2 := he.trans e2
    clear hB e2 he
    go_wp2_with fail
    go_ret2
    exact ⟨rfl, by rw [Hb.out] at he2; exact he2⟩
theorem ReadsL_wrow {w : World} {g t : Nat} {l : List Int} (h : Blk w g t (wrow l)) : ReadsL w w.heap.size wcells 1 (some ⟨g, 0, none⟩) l := by
 refine Blk.readsL (t := t) wcells_length ?_
 rw [wcells_flat]
 exact h
theorem TextOf8_any (A : Option Addr) (c : Nat) (l : List Int) (w : World) (hr : ReadsL w w.heap.size wcells 1 A l) (h32 : W32 l) (hl : l.length = 8) :
 Calls Tryz.prog 231 #[.slice A 8 c] w fun e w' => e = .returned (.tuple #[.string (textW l), .bool true]) ∧ Ext w w' := by
 have := TextOf_any A c l w hr h32 (by omega)
 rw [hl] at this
 exact this
theorem chainText_any (n : Int) (s : List Int) (w : World) (hs : s.length = 8) (ws : W32 s) (h0 : 1 ≤ n) (h1 : n ≤ 32) :
 Calls Tryz.prog 163 #[.int .i64 n, .agg (wrow s)] w fun e w' => e = .returned (.string ((textW s).extract 0 n.toNat)) ∧ Ext w w' := by
 obtain ⟨a0, a1, a2, a3, a4, a5, a6, a7, rfl⟩ := list8 hs
 obtain ⟨s, hsd⟩ : ∃ s, s = [a0, a1, a2, a3, a4, a5, a6, a7] := ⟨_, rfl⟩
 have es : wrow [a0, a1, a2, a3, a4, a5, a6, a7] = #[.int .u32 a0, .int .u32 a1, .int .u32 a2, .int .u32 a3, .int .u32 a4, .int .u32 a5, .int .u32 a6, .int .u32 a7] := rfl
 rw [← hsd] at hs ws es
 rw [← hsd, es]
 have B := Blk.new w 219 (wrow s)
 have HR := hU (ReadsL_wrow B)
 rw [es] at HR
 have He := hU (Ext.new (Below.refl w.heap.size w) (.cells #[.int .u32 a0, .int .u32 a1, .int .u32 a2, .int .u32 a3, .int .u32 a4, .int .u32 a5, .int .u32 a6, .int .u32 a7] 219))
 have hsz : (textW s).size = 32 := by rw [textW_size, hs]
 clear B es hsd
 obtain ⟨T, hT⟩ : ∃ T, T = textW s := ⟨_, rfl⟩
 rw [← hT] at hsz
 rw [← hT]
 have HT := hU hT
 clear hT
 obtain ⟨m, rfl⟩ := Int.eq_ofNat_of_zero_le (show 0 ≤ n by omega)
 rw [Int.toNat_natCast]
 have hm : m ≤ T.size := by omega
 have hm2 : (m : Int) ≤ (T.size : Int) := by omega
 go_enter Tryz.func163, Tryz.ntmps163
 go_wp2_with fail
 refine (TextOf8_any (some ⟨w.heap.size, 0, none⟩) 8 s _ HR.out ws hs).mono ?_
 rintro e w1 ⟨he1, h1⟩
 rw [← HT.out] at he1
 subst he1
 have he := Ext.next He.out h1
 go_wp2_with fail
 go_ret
 exact ⟨rfl, he⟩
theorem repeat_zero (n : Nat) : (⟨(Lib.repeatL [(0 : UInt8)] n).toArray⟩ : ByteArray) = zeroB n := by
 have : ∀ n, Lib.repeatL [(0 : UInt8)] n = List.replicate n 0 := by
  intro n
  induction n with
  | zero => rfl
  | succ n ih => rw [Lib.repeatL, ih]; rfl
 rw [this]; rfl
theorem padOf_any (n : Int) (w : World) (h0 : 0 ≤ n) (h1 : n ≤ 4000) :
 Calls Tryz.prog 166 #[.int .i64 n] w fun e w' => e = .returned (.string (padT n.toNat)) ∧ Ext w w' := by
 obtain ⟨m, rfl⟩ := Int.eq_ofNat_of_zero_le h0
 rw [Int.toNat_natCast]
 have hz : ((119 - (m : Int)) % 64).toNat = padZ m := by unfold padZ; omega
 have Hz := hU hz
 have zs : (zeroB (padZ m)).size ≤ 64 := by rw [zeroB_size]; unfold padZ; omega
 have p1 : (⟨#[128]⟩ : ByteArray).size ≤ 1 := Nat.le_refl _
 have p2 : (wtext 0).size ≤ 4 := Nat.le_refl _
 have p3 : (wtext (m : Int)).size ≤ 4 := Nat.le_refl _
 have P := hU (show padT m = ⟨#[128]⟩ ++ zeroB (padZ m) ++ wtext 0 ++ wtext (m : Int) from rfl)
 have hd : (m : Int) / 4294967296 = 0 := by omega
 clear hz
 go_enter Tryz.func166, Tryz.ntmps166
 go_wp2_with fail
 refine (Repeat_any _ _ _ (by omega) (by omega) (by decide)).mono ?_
 rintro e w1 ⟨rfl, he⟩
 rw [Hz.out, repeat_zero]
 go_wp2_with fail
 refine (WordText_any _ _ (by omega) (by omega)).mono ?_
 rintro e w2 ⟨rfl, h1⟩
 replace he := he.next h1; clear h1
 go_wp2_with fail
 refine (WordText_any _ _ (by omega) (by omega)).mono ?_
 rintro e w3 ⟨rfl, h1⟩
 replace he := he.next h1; clear h1
 go_wp2_with fail
 go_ret
 exact ⟨ret_str P.out.symm, he⟩
theorem isWidth_any (n : Int) (w : World) : Calls Tryz.prog 53 #[.int .i64 n] w fun e w' => e = .returned (.bool (inR n 1 32)) ∧ w = w' := by
 go_enter Tryz.func53, Tryz.ntmps53
 go_wp2_with (go_at_call 117; refine (inRange_any _ _ _ _).mono ?_; rintro e w' ⟨rfl, rfl⟩)
 go_ret
 exact ⟨rfl, rfl⟩
theorem isTag_any (n : Int) (w : World) : Calls Tryz.prog 162 #[.int .i64 n] w fun e w' => e = .returned (.bool (inR n 0 255)) ∧ w = w' := by
 go_enter Tryz.func162, Tryz.ntmps162
 go_wp2_with (go_at_call 117; refine (inRange_any _ _ _ _).mono ?_; rintro e w' ⟨rfl, rfl⟩)
 go_ret
 exact ⟨rfl, rfl⟩
theorem digest_no {width tag : Int} {T : ByteArray} (h : digestOk width tag T = false) : digest width tag T = ⟨#[]⟩ := by simp [digest, h]
theorem digest_yes {width tag : Int} {T : ByteArray} (h : digestOk width tag T = true) : digest width tag T = digestT width.toNat tag T := by simp [digest, h]
theorem Digest_any (width tag : Int) (T : ByteArray) (w : World) (hT : T.size ≤ maxLen) :
 Calls Tryz.prog 96 #[.int .i64 width, .int .i64 tag, .string T] w fun e w' => e = .returned (.tuple #[.string (digest width tag T), .bool (digestOk width tag T)]) ∧ Ext w w' := by
 unfold maxLen at hT
 cases b1 : inR width 1 32
 · have Ho := hU (show digestOk width tag T = false by simp [digestOk, b1])
   rw [digest_no Ho.out, Ho.out]
   go_enter Tryz.func96, Tryz.ntmps96
   go_wp2_with (first | (go_at_call 53; refine (isWidth_any _ _).mono ?_; rintro e w' ⟨rfl, rfl⟩) | (go_at_call 162; refine (isTag_any _ _).mono ?_; rintro e w' ⟨rfl, rfl⟩))
   go_ret2
   exact ⟨rfl, Below.refl _ _⟩
 cases b2 : inR tag 0 255
 · have Ho := hU (show digestOk width tag T = false by simp [digestOk, b2])
   rw [digest_no Ho.out, Ho.out]
   go_enter Tryz.func96, Tryz.ntmps96
   go_wp2_with (first | (go_at_call 53; refine (isWidth_any _ _).mono ?_; rintro e w' ⟨rfl, rfl⟩) | (go_at_call 162; refine (isTag_any _ _).mono ?_; rintro e w' ⟨rfl, rfl⟩))
   go_ret2
   exact ⟨rfl, Below.refl _ _⟩
 by_cases b3 : T.size ≤ 4000
 case neg =>
  have Ho := hU (show digestOk width tag T = false by simp [digestOk, b3])
  rw [digest_no Ho.out, Ho.out]
  have hd : decide ((4000 : Int) < (T.size : Int)) = true := by rw [decide_eq_true_eq]; omega
  go_enter Tryz.func96, Tryz.ntmps96
  go_wp2_with (first | (go_at_call 53; refine (isWidth_any _ _).mono ?_; rintro e w' ⟨rfl, rfl⟩) | (go_at_call 162; refine (isTag_any _ _).mono ?_; rintro e w' ⟨rfl, rfl⟩))
  go_ret2
  exact ⟨rfl, Below.refl _ _⟩
 have Ho := hU (show digestOk width tag T = true by simp [digestOk, b1, b2, b3])
 have hd : decide ((4000 : Int) < (T.size : Int)) = false := by rw [decide_eq_false_iff_not]; omega
 obtain ⟨w0, w1⟩ := inR_true b1
 obtain ⟨t0, t1⟩ := inR_true b2
 obtain ⟨fin, hfin⟩ : ∃ fin, fin = digestT width.toNat tag T := ⟨_, rfl⟩
 rw [digest_yes Ho.out, Ho.out, ← hfin]
 have Hf := hU (show (textW (mixT (T ++ padT T.size) (startW tag) ((T.size + (padT T.size).size) / 64))).extract 0 width.toNat = fin by rw [hfin, digestT, ByteArray.size_append])
 have hps : (padT T.size).size ≤ 73 := by rw [padT_size]; unfold padZ; omega
 clear hfin
 go_enter Tryz.func96, Tryz.ntmps96
 go_wp2_with (first | (go_at_call 53; refine (isWidth_any _ _).mono ?_; rintro e w' ⟨rfl, rfl⟩) | (go_at_call 162; refine (isTag_any _ _).mono ?_; rintro e w' ⟨rfl, rfl⟩))
 refine (firstState_any tag _ t0 t1).mono ?_
 rintro e w2 ⟨rfl, he⟩
 go_wp2_with fail
 refine (padOf_any _ _ (by omega) (by omega)).mono ?_
 rintro e w3 ⟨rfl, h1⟩
 replace he := he.next h1; clear h1
 rw [Int.toNat_natCast]
 go_wp2_with fail
 refine (mixAll_any (startW tag) (T ++ padT T.size) _ (startW_len tag) (startW_32 tag) (by rw [ByteArray.size_append]; omega)).mono ?_
 rintro e w4 ⟨rfl, h1⟩
 replace he := he.next h1; clear h1
 go_wp2_with fail
 refine (chainText_any width _ _ (by rw [mixT_len, startW_len]) (mixT_32 _ (startW_32 tag) _) w0 w1).mono ?_
 rintro e w5 ⟨rfl, h1⟩
 replace he := he.next h1; clear h1
 rw [Hf.out]
 go_wp2_with fail
 go_ret2
 exact ⟨rfl, he⟩
end Go.Proofs.YtgeengkdgdjcjaaGreat
