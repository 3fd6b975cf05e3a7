/-
  Bytes0; SpecHash: No condition.
-/
import Derived.Test.YtgeengkdgdjcjaaTexts
import Derived.Test.YtgeengkdgdjcjaaOwn
import Derived.Test.YtgeengkdgdjcjaaHashTop
namespace Go.Proofs.Ytgeengkdgdjcjaa
set_option linter.unusedSimpArgs false
open Go.RowKit
set_option linter.unusedVariables false
theorem info_u8 : (Try.prog.info? 5).map (fun i => (i.zero, i.size, i.bytes)) = some (some (.int .u8 0), 1, 1) := by kernel_rfl
def bvals (l : List Int) : List Value := l.map (.int .u8)
theorem bvals_len (l : List Int) : (bvals l).length = l.length := by simp [bvals]
theorem bvals_snoc (l : List Int) (x : Int) : bvals l ++ [.int .u8 x] = bvals (l ++ [x]) := by simp [bvals]
theorem ofInts_append (a b : List Int) : ofInts (a ++ b) = ofInts a ++ ofInts b := by
 apply ByteArray.ext
 simp [ofInts, ByteArray.data_append]
theorem own_string {w : World} {B : Nat} {A : Option Addr} {c : Nat} {l : List Int} {n : Nat} (hn : n = l.length) (h : w.ownsRow B 5 1 (.slice A n c) n (bvals l)) (h0 : 0 < n) (hb : ∀ x ∈ l, 0 ≤ x ∧ x < 256) :
 (convert 22 9 (.slice A n c)).run Try.prog w = .ok (.string (ofInts l)) w := by
 subst hn
 rcases h.2 with ⟨_, h2⟩ | ⟨g, cap, cur, hv, hg, hh, hnc, hm, hs, ht⟩
 · omega
 · obtain ⟨rfl, _, rfl⟩ : A = some ⟨g, 0, none⟩ ∧ l.length = l.length ∧ c = cap := by simpa using hv
   have h0 := run_convert_bytes_back (P := Try.prog) w 22 9 5 ⟨g, 0, none⟩ c (l.map fun x => UInt8.ofNat x.toNat)
    Try.underlying22 Try.underlying5 Try.underlying9 (fun j hj => by
     rw [add_mk, Nat.zero_add, h.cellAt j (by simpa using hj)]
     have hj' : j < l.length := by simpa using hj
     obtain ⟨h1, h2⟩ := hb l[j] (List.getElem_mem hj')
     simp only [bvals, List.getElem?_map, List.getElem?_eq_getElem hj', Option.map_some, List.getElem_map, Option.some.injEq, Value.int.injEq, true_and]
     rw [UInt8.toNat_ofNat_of_lt' (by show l[j].toNat < 256; omega)]
     omega)
   simp only [List.length_map] at h0
   exact h0
set_option maxHeartbeats 2000000
set_option maxRecDepth 100000
theorem info_u32 : (Try.prog.info? 81).map (fun i => (i.zero, i.size, i.bytes)) = some (some (.int .u32 0), 1, 4) := by kernel_rfl
def wvals (l : List Int) : List Value := l.map wcell
theorem wvals_len (l : List Int) : (wvals l).length = l.length := by simp [wvals]
theorem wvals_snoc (l : List Int) (x : Int) : wvals l ++ [.int .u32 x] = wvals (l ++ [x]) := by simp [wvals, wcell]
theorem wvals_flat (l : List Int) : l.flatMap wcells = wvals l := wcells_flat l
theorem wvals_get {l : List Int} {i : Nat} (h : i < l.length) : (wvals l)[i]? = some (.int .u32 (gw l i)) := by simp [wvals, List.getElem?_map, gw_get h, wcell]
def OwnW (W w : World) (v : Value) (l : List Int) : Prop := w.ownsRow W.heap.size 81 1 v l.length (wvals l)
theorem StartOf_any (tag : Int) (w : World) (h : inR tag 0 255 = true) :
 Calls Try.prog 42 #[.int .i64 tag] w fun e w' => ∃ v, e = .returned (.tuple #[v, .bool true]) ∧ OwnW w w' v (startW tag) ∧ Ext w w' := by
 obtain ⟨i0, hi, hz0, hz1, hz2⟩ := info_parts info_u32
 obtain ⟨t0, t1⟩ := inR_true h
 go_enter Try.func42, Try.ntmps42
 go_wp2_with (go_at_call 22; refine (l01In_any _ _ _ _).mono ?_; rintro e w' ⟨rfl, rfl⟩)
 obtain ⟨B, hB⟩ : ∃ B, B = w.heap.size := ⟨_, rfl⟩
 have H0 := hU (ownsRow_empty w 81 1)
 have HE := hU (Ext.new (Below.refl w.heap.size w) (.cells #[] 81))
 rw [← hB] at H0
 rw [← hB]
 have Hb : w.heap.size ≤ B := by omega
 have HB := hU hB
 clear hB
 go_loopw [4, 5] (fun v x wr => ∃ i : Nat, i ≤ 8 ∧ x = .int .i64 i ∧ wr.ownsRow B 81 1 v i (wvals ((startW tag).take i)) ∧ Ext w wr) (fun _ x _ => 8 - (intOf x).toNat)
 case atStart => exact ⟨0, by omega, rfl, H0.out, HE.out⟩
 case round =>
  clear H0 HE
  obtain ⟨i, hi8, rfl, hown, he⟩ := hrel
  obtain ⟨A, c, rfl, hnc⟩ := ownsRow_form hown
  have KO := hU hown
  clear hown
  by_cases hlt : i < 8
  · have hB2 : B ≤ wr.heap.size := by have := he.size; have := HB.out; omega
    have hnext : wvals ((startW tag).take i) ++ [.int .u32 (startAt tag i)] = wvals ((startW tag).take (i + 1)) := by
     rw [List.take_succ_eq_append_getElem (by rw [startW_len]; omega), wvals_snoc]
     simp [startW]
    have Hn := hU hnext
    clear hnext
    go_wp2_with (at_builtin; refine wpList_append_own _ rfl _ _ 72 rfl B 81 i0 (.int .u32 0) 1 4 Try.underlying72 hi hz0 hz1 hz2 rfl (by decide) _ _ _ rfl (KO.out.alloc _) ⟨wr.heap.size, 0, none⟩ 1 1 [.int .u32 (startAt tag i)] rfl rfl ?c1 ?c2 ?c3 ?c4 ?c5 ?_)
    case c1 => exact one_at _ _ _
    case c2 => exact one_cell rfl
    case c3 => unfold maxLen; omega
    case c4 => omega
    case c5 => simp; omega
    intro v' w1 hown' hgrow _
    have he1 := Ext.ownGrown (Ext.new he _) (KO.out.alloc _) hgrow Hb
    rw [Hn.out] at hown'
    have KO' := hU hown'
    clear hown' hgrow KO he
    go_wp2_with fail
    go_roundw
    case rel => exact ⟨i + 1, by omega, by go_num, KO'.out, he1⟩
    case measure => simp [intOf]; omega
  · have hi8' : i = 8 := by omega
    have hd8 : decide ((i : Int) < 8) = false := by rw [decide_eq_false_iff_not]; omega
    have hfin : OwnW w wr (.slice A i c) (startW tag) := by
     have := KO.out
     rw [hi8', List.take_of_length_le (by rw [startW_len]; omega), HB.out] at this
     unfold OwnW
     rw [startW_len, hi8']
     exact this
    have HF := hU hfin
    clear hfin hi8' KO
    go_wp2_with fail
    go_ret2
    exact ⟨_, rfl, HF.out, he⟩
end Go.Proofs.Ytgeengkdgdjcjaa
