/-
  Texts that are read, and made again. No condition, no program.
  Rows of bytes, and texts of them. No condition.
  The reference's hash: walks. No condition.
-/
import Derived.Test.YtkcjhfidgnbdiaaTexts
import Derived.Test.YtkcjhfidgnbdiaaEqs
import Derived.Test.YtkcjhfidgnbdiaaOwn
import Derived.Test.YtkcjhfidgnbdiaaHashTop
namespace Go.Proofs.Ytkcjhfidgnbdiaa
set_option linter.unusedSimpArgs false
open Go.RowKit
set_option linter.unusedVariables false

/-- What was read so far. -/
def Sofar (T : ByteArray) (r : Rd) (X : ByteArray) : Prop := r.bad = false → T.extract 0 r.pos = X ∧ r.pos ≤ T.size
theorem Sofar.start (T : ByteArray) : Sofar T ⟨0, false⟩ ⟨#[]⟩ := fun _ => ⟨by simp; rfl, Nat.zero_le _⟩
theorem rdNext_ok {T : ByteArray} {r : Rd} {n : Nat} (h : (rdNext T r n).bad = false) : r.bad = false ∧ (rdNext T r n).pos = r.pos + n ∧ r.pos + n ≤ T.size ∧ rdTake T r n = T.extract r.pos (r.pos + n) := by
  unfold rdNext at h ⊢
  unfold rdTake
  cases hf : rdFails T r n
  · simp only [rdFails, Bool.or_eq_false_iff, decide_eq_false_iff_not] at hf
    exact ⟨hf.1, rfl, by omega, rfl⟩
  · rw [hf] at h; simp at h
theorem Sofar.take {T : ByteArray} {r : Rd} {X : ByteArray} (h : Sofar T r X) (n : Nat) : Sofar T (rdNext T r n) (X ++ rdTake T r n) := by
  intro hb
  obtain ⟨h1, h2, h3, h4⟩ := rdNext_ok hb
  obtain ⟨h5, h6⟩ := h h1
  refine ⟨?_, by omega⟩
  rw [h2, h4, ← h5]
  exact ByteArray.extract_eq_extract_append_extract r.pos (Nat.zero_le _) (by omega)
theorem rdTake_full {T : ByteArray} {r : Rd} {n : Nat} (h : (rdNext T r n).bad = false) : (rdTake T r n).size = n := by
  obtain ⟨h1, h2, h3, h4⟩ := rdNext_ok h
  rw [h4, ByteArray.size_extract]; omega
theorem ofNat_mod (m : Nat) (c : UInt8) (h : m % 256 = c.toNat) : UInt8.ofNat m = c := by
  apply UInt8.toNat_inj.1
  rw [UInt8.toNat_ofNat']
  have := c.toNat_lt
  show m % 256 = _
  omega
theorem one_of (b : ByteArray) (h : b.size = 1) : octB (beNum b : Int) = b := by
  obtain ⟨⟨l⟩⟩ := b
  match l, h with
  | [c], _ =>
    simp only [beNum, octB, ofInts, List.foldl_cons, List.foldl_nil, List.map_cons, List.map_nil]
    rw [ofNat_mod _ c (by have := c.toNat_lt; omega)]
theorem two_of (b : ByteArray) (h : b.size = 2) : octB ((beNum b : Int) / 256) ++ octB (beNum b : Int) = b := by
  obtain ⟨⟨l⟩⟩ := b
  match l, h with
  | [c, d], _ =>
    simp only [beNum, octB, ofInts, List.foldl_cons, List.foldl_nil, List.map_cons, List.map_nil]
    rw [ofNat_mod _ c (by have := c.toNat_lt; have := d.toNat_lt; omega), ofNat_mod _ d (by have := c.toNat_lt; have := d.toNat_lt; omega)]
    rfl
theorem lenB (b x : ByteArray) (h : b.size = 1) (hx : x.size = beNum b) : octB (x.size : Int) = b := by rw [hx, one_of b h]
/-- The text that was told and the text that is made again of what was read. -/
theorem reread {T K k X : ByteArray} {r : Rd} (h : Sofar T r (K ++ X)) (hb : r.bad = false) (hs : K.size = k.size) : (decide (K = k) && rdDone T r) = decide (k ++ X = T) := by
  obtain ⟨h1, h2⟩ := h hb
  rw [Bool.eq_iff_iff]
  simp only [rdDone, hb, Bool.and_eq_true, decide_eq_true_eq, Bool.not_false, true_and]
  constructor
  · rintro ⟨rfl, h3⟩
    rw [← h1, h3]; exact ByteArray.extract_zero_size
  · intro h3
    have h4 := congrArg ByteArray.size h1
    have h5 := congrArg ByteArray.size h3
    rw [ByteArray.size_extract] at h4
    rw [ByteArray.size_append] at h4 h5
    have h6 : r.pos = T.size := by omega
    refine ⟨?_, h6⟩
    have h7 : K ++ X = k ++ X := by rw [← h1, h3, h6]; exact ByteArray.extract_zero_size
    exact ByteArray.append_inj_left h7 hs
theorem reread_bad {T : ByteArray} {r : Rd} (hb : r.bad = true) : rdDone T r = false := by simp [rdDone, hb]
theorem rdShortNext_ok {T : ByteArray} {r : Rd} {n : Nat} (h : (rdShortNext T r n).bad = false) : r.bad = false ∧ (rdNext T r n).bad = false ∧ (rdTake T r n).size = n ∧ (rdShort T r n).size = beNum (rdTake T r n) := by
  have h1 : (rdNext T r n).bad = false := (rdNext_ok h).1
  exact ⟨(rdNext_ok h1).1, h1, rdTake_full h1, rdTake_full h⟩
theorem bytes_beq (a b : ByteArray) : (a.toList == b.toList) = decide (a = b) := by
  rw [Bool.eq_iff_iff]; simp [bytes_eq_iff]
theorem kind_of (b : ByteArray) (c : UInt8) : (b.toList == [c]) = decide (b = ⟨#[c]⟩) := by
  have h : (⟨#[c]⟩ : ByteArray).toList = [c] := by rw [ByteArray.toList_eq]
  have h2 := bytes_beq b ⟨#[c]⟩
  rw [h] at h2
  exact h2
end Go.Proofs.Ytkcjhfidgnbdiaa
namespace Go.Proofs.Ytkcjhfidgnbdiaa
set_option linter.unusedSimpArgs false
open Go.RowKit
set_option linter.unusedVariables false

theorem info_u8 : (Try.prog.info? 5).map (fun i => (i.zero, i.size, i.bytes)) = some (some (.int .u8 0), 1, 1) := by kernel_rfl
/-- Bytes as cells. -/
def bvals (l : List Int) : List Value := l.map (.int .u8)
theorem bvals_len (l : List Int) : (bvals l).length = l.length := by simp [bvals]
theorem bvals_snoc (l : List Int) (x : Int) : bvals l ++ [.int .u8 x] = bvals (l ++ [x]) := by simp [bvals]
theorem ofInts_append (a b : List Int) : ofInts (a ++ b) = ofInts a ++ ofInts b := by
  apply ByteArray.ext
  simp [ofInts, ByteArray.data_append]
/-- 'string(out)' of a row of bytes of the call's own. -/
theorem own_string {w : World} {B : Nat} {A : Option Addr} {c : Nat} {l : List Int} {n : Nat} (hn : n = l.length) (h : w.ownsRow B 5 1 (.slice A n c) n (bvals l)) (h0 : 0 < n) (hb : ∀ x ∈ l, 0 ≤ x ∧ x < 256) :
    (convert 22 9 (.slice A n c)).run Try.prog w = .ok (.string (ofInts l)) w := by
  subst hn
  rcases h.2 with ⟨_, h2⟩ | ⟨g, cap, cur, hv, hg, hh, hnc, hm, hs, ht⟩
  · omega
  · obtain ⟨rfl, _, rfl⟩ : A = some ⟨g, 0, none⟩ ∧ l.length = l.length ∧ c = cap := by simpa using hv
    have h0 := run_convert_bytes_back (P := Try.prog) w 22 9 5 ⟨g, 0, none⟩ c (l.map fun x => UInt8.ofNat x.toNat)
      Try.underlying22 Try.underlying5 Try.underlying9 (fun j hj => by
        rw [add_mk, Nat.zero_add, h.cellAt j (by simpa using hj)]
        have hj' : j < l.length := by simpa using hj
        obtain ⟨h1, h2⟩ := hb l[j] (List.getElem_mem hj')
        simp only [bvals, List.getElem?_map, List.getElem?_eq_getElem hj', Option.map_some, List.getElem_map, Option.some.injEq, Value.int.injEq, true_and]
        rw [UInt8.toNat_ofNat_of_lt' (by show l[j].toNat < 256; omega)]
        omega)
    simp only [List.length_map] at h0
    exact h0
end Go.Proofs.Ytkcjhfidgnbdiaa
namespace Go.Proofs.Ytkcjhfidgnbdiaa
set_option linter.unusedSimpArgs false
open Go.RowKit
set_option linter.unusedVariables false

theorem info_u32 : (Try.prog.info? 137).map (fun i => (i.zero, i.size, i.bytes)) = some (some (.int .u32 0), 1, 4) := by kernel_rfl
def wvals (l : List Int) : List Value := l.map wcell
theorem wvals_len (l : List Int) : (wvals l).length = l.length := by simp [wvals]
theorem wvals_snoc (l : List Int) (x : Int) : wvals l ++ [.int .u32 x] = wvals (l ++ [x]) := by simp [wvals, wcell]
theorem wvals_flat (l : List Int) : l.flatMap wcells = wvals l := wcells_flat l
theorem wvals_get {l : List Int} {i : Nat} (h : i < l.length) : (wvals l)[i]? = some (.int .u32 (gw l i)) := by simp [wvals, List.getElem?_map, gw_get h, wcell]
/-- A result that is a row of words of the call's own. -/
def OwnW (W w : World) (v : Value) (l : List Int) : Prop := w.ownsRow W.heap.size 137 1 v l.length (wvals l)

set_option maxHeartbeats 2000000 in
set_option maxRecDepth 100000 in
theorem StartOf_any (tag : Int) (w : World) (h : inR tag 0 255 = true) :
    Calls Try.prog 74 #[.int .i64 tag] w fun e w' => ∃ v, e = .returned (.tuple #[v, .bool true]) ∧ OwnW w w' v (startW tag) ∧ Ext w w' := by
  obtain ⟨i0, hi, hz0, hz1, hz2⟩ := info_parts info_u32
  obtain ⟨t0, t1⟩ := inR_true h
  go_enter Try.func74, Try.ntmps74
  go_wp2_with (go_at_call 32; refine (l01In_any _ _ _ _).mono ?_; rintro e w' ⟨rfl, rfl⟩)
  obtain ⟨B, hB⟩ : ∃ B, B = w.heap.size := ⟨_, rfl⟩
  have H0 := Lib.hid (ownsRow_empty w 137 1)
  have HE := Lib.hid (Ext.new (Below.refl w.heap.size w) (.cells #[] 137))
  rw [← hB] at H0
  rw [← hB]
  have Hb : w.heap.size ≤ B := by omega
  have HB := Lib.hid hB
  clear hB
  go_loopw [4, 5] (fun v x wr => ∃ i : Nat, i ≤ 8 ∧ x = .int .i64 i ∧ wr.ownsRow B 137 1 v i (wvals ((startW tag).take i)) ∧ Ext w wr) (fun _ x _ => 8 - (intOf x).toNat)
  case atStart => exact ⟨0, by omega, rfl, H0.out, HE.out⟩
  case round =>
    clear H0 HE
    obtain ⟨i, hi8, rfl, hown, he⟩ := hrel
    obtain ⟨A, c, rfl, hnc⟩ := ownsRow_form hown
    have KO := Lib.hid hown
    clear hown
    by_cases hlt : i < 8
    · have hB2 : B ≤ wr.heap.size := by have := he.size; have := HB.out; omega
      have hnext : wvals ((startW tag).take i) ++ [.int .u32 (startAt tag i)] = wvals ((startW tag).take (i + 1)) := by
        rw [List.take_succ_eq_append_getElem (by rw [startW_len]; omega), wvals_snoc]
        simp [startW]
      have Hn := Lib.hid hnext
      clear hnext
      go_wp2_with (at_builtin; refine wpList_append_own _ rfl _ _ 108 rfl B 137 i0 (.int .u32 0) 1 4 Try.underlying108 hi hz0 hz1 hz2 rfl (by decide) _ _ _ rfl (KO.out.alloc _) ⟨wr.heap.size, 0, none⟩ 1 1 [.int .u32 (startAt tag i)] rfl rfl ?c1 ?c2 ?c3 ?c4 ?c5 ?_)
      case c1 => exact one_at _ _ _
      case c2 => exact one_cell rfl
      case c3 => unfold maxLen; omega
      case c4 => omega
      case c5 => simp; omega
      intro v' w1 hown' hgrow _
      have he1 := Ext.ownGrown (Ext.new he _) (KO.out.alloc _) hgrow Hb
      rw [Hn.out] at hown'
      have KO' := Lib.hid hown'
      clear hown' hgrow KO he
      go_wp2_with fail
      go_roundw
      case rel => exact ⟨i + 1, by omega, by go_num, KO'.out, he1⟩
      case measure => simp [intOf]; omega
    · have hi8' : i = 8 := by omega
      have hd8 : decide ((i : Int) < 8) = false := by rw [decide_eq_false_iff_not]; omega
      have hfin : OwnW w wr (.slice A i c) (startW tag) := by
        have := KO.out
        rw [hi8', List.take_of_length_le (by rw [startW_len]; omega), HB.out] at this
        unfold OwnW
        rw [startW_len, hi8']
        exact this
      have HF := Lib.hid hfin
      clear hfin hi8' KO
      go_wp2_with fail
      go_ret2
      exact ⟨_, rfl, HF.out, he⟩
end Go.Proofs.Ytkcjhfidgnbdiaa
