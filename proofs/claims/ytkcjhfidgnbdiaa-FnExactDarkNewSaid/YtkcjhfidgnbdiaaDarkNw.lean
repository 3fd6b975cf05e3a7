/-
  DarkNew on both sides: walks. No condition.
-/
import Derived.Test.YtkcjhfidgnbdiaaNamesOk2
import Derived.Test.YtkcjhfidgnbdiaaGapless
import Derived.Test.YtkcjhfidgnbdiaaFrm
namespace Go.Proofs.Ytkcjhfidgnbdiaa
set_option linter.unusedSimpArgs false
open Go.RowKit
set_option linter.unusedVariables false

def cliZ (n : Int) (s : ByteArray) : CliZ := ⟨n, s, newH true n⟩
def scnZ (n : Int) (s : ByteArray) : ScnZ := ⟨cliZ n s, 0⟩
def darkC (n : Int) (l : List ByteArray) : List CliZ := if inR n 1 32 && namesB l then l.map (cliZ n) else []
def darkS (n : Int) (l : List ByteArray) : List ScnZ := if inR n 1 32 && namesB l then l.map (scnZ n) else []
theorem newC_z {n : Int} {s : ByteArray} (h : (inR n 1 32 && nameOk s) = true) : newC n s = (cliZ n s).cells := by unfold newC; rw [h]; rfl
theorem newS_z {n : Int} {s : ByteArray} (h : (inR n 1 32 && nameOk s) = true) : newS n s = (scnZ n s).cells := by unfold newS; rw [newC_z h]; rfl
theorem namesTo_all {l : List ByteArray} : ∀ {n : Nat}, namesTo l n = true → ∀ i, i < n → nameOk (l.getD i ⟨#[]⟩) = true
  | 0, _, i, hi => absurd hi (by omega)
  | n + 1, h, i, hi => by
    rw [namesTo, Bool.and_eq_true, Bool.and_eq_true] at h
    by_cases e : i = n
    · subst e; exact h.2.1
    · exact namesTo_all h.1 i (by omega)
theorem names_ok {n : Int} {l : List ByteArray} (h : (inR n 1 32 && namesB l) = true) : inR n 1 32 = true ∧ l.length ≤ 4 ∧ ∀ s ∈ l, (inR n 1 32 && nameOk s) = true := by
  rw [Bool.and_eq_true, namesB, Bool.and_eq_true] at h
  obtain ⟨h1, h2, h3⟩ := h
  refine ⟨h1, by have := inR_true h2; omega, fun s hs => ?_⟩
  obtain ⟨i, hi⟩ := List.getElem?_of_mem hs
  have hl : i < l.length := (List.getElem?_eq_some_iff.1 hi).1
  have := namesTo_all h3 i hl
  rw [List.getD_eq_getElem?_getD, hi] at this
  rw [h1]; exact this
theorem cliZ_cell (d : CliZ) : ∀ u ∈ d.cells, u.oneCell' = true := by
  intro u hu
  simp [CliZ.cells] at hu
  rcases hu with rfl | rfl | rfl | rfl | rfl | rfl | rfl | rfl <;> rfl
theorem scnZ_cell (d : ScnZ) : ∀ u ∈ d.cells, u.oneCell' = true := by
  intro u hu
  simp [ScnZ.cells] at hu
  rcases hu with rfl | rfl | rfl | rfl | rfl | rfl | rfl | rfl | rfl | rfl <;> rfl
theorem info_client : (Try.prog.info? 77).map (fun i => (i.zero, i.size, i.bytes)) = some (some (.agg #[.int .i64 0, .string ⟨#[]⟩, .int .i64 0, .int .i64 0, .string ⟨#[]⟩, .int .i64 0, .string ⟨#[]⟩, .slice none 0 0]), 8, 104) := by kernel_rfl
theorem info_scanner : (Try.prog.info? 81).map (fun i => (i.zero, i.size, i.bytes)) = some (some (.agg #[.int .i64 0, .string ⟨#[]⟩, .int .i64 0, .int .i64 0, .string ⟨#[]⟩, .int .i64 0, .string ⟨#[]⟩, .slice none 0 0, .int .i64 0, .slice none 0 0]), 10, 136) := by kernel_rfl
/-- A dark's six slices, of which the last four are nil. -/
def darkV (v0 v1 : Value) : List Value := [v0, v1, .slice none 0 0, .slice none 0 0, .slice none 0 0, .slice none 0 0]
/-- Two rows of the call's own, in different blocks. -/
def Two (K : Nat) (w : World) (v0 v1 : Value) (m : Nat) (a : List CliZ) (b : List ScnZ) : Prop :=
  w.ownsRow K 77 8 v0 m (a.flatMap CliZ.cells) ∧ w.ownsRow K 81 10 v1 m (b.flatMap ScnZ.cells) ∧ ∀ x, v0.ownBlock = some x → v1.ownBlock = some x → False
theorem Two.ext {K m : Nat} {w w' : World} {v0 v1 : Value} {a : List CliZ} {b : List ScnZ} (h : Two K w v0 v1 m a b) (he : Ext w w') : Two K w' v0 v1 m a b := ⟨ownsRow_ext h.1 he, ownsRow_ext h.2.1 he, h.2.2⟩
theorem Two.none (K : Nat) (w : World) : Two K w (.slice none 0 0) (.slice none 0 0) 0 [] [] := ⟨World.ownsRow_nil _ _ _ _, World.ownsRow_nil _ _ _ _, fun x h => by cases h⟩
set_option maxHeartbeats 4000000 in
set_option maxRecDepth 100000 in
theorem implDarkNew_any (n : Int) (A : Option Addr) (c : Nat) (l : List ByteArray) (w : World) (hr : SlF AnyB sone 1 w A l c) (hok : ∀ s ∈ l, s.size ≤ maxLen) :
    Calls Try.prog 19 #[.int .i64 n, .slice A l.length c] w fun e w' => ∃ v0 v1, e = .returned (.tuple #[.agg (darkV v0 v1).toArray, .bool (inR n 1 32 && namesB l)]) ∧ Two w.heap.size w' v0 v1 (darkC n l).length (darkC n l) (darkS n l) ∧ Ext w w' := by
  have K0 := Lib.hid (Blk.new w 50 #[.slice none 0 0, .slice none 0 0, .slice none 0 0, .slice none 0 0, .slice none 0 0, .slice none 0 0])
  have He := Lib.hid (Ext.new (Below.refl w.heap.size w) (.cells #[.slice none 0 0, .slice none 0 0, .slice none 0 0, .slice none 0 0, .slice none 0 0, .slice none 0 0] 50))
  have HR := Lib.hid hr
  have hle := hr.le
  have hcm := hr.cap
  unfold maxLen at hcm
  obtain ⟨ok, hok1⟩ : ∃ ok, ok = (inR n 1 32 && namesB l) := ⟨_, rfl⟩
  rw [← hok1]
  cases ok
  · have E : Hid (darkC n l = [] ∧ darkS n l = []) := Lib.hid (by simp [darkC, darkS, ← hok1])
    have Q := Lib.hid hok1; clear hok1
    go_enter Try.func19, Try.ntmps19
    go_wp2_with fail
    refine (implNamesOk_any n A c l _ (HR.out.ext He.out) hok).mono ?_
    rintro e w1 ⟨rfl, rfl⟩
    rw [← Q.out]
    go_wp2_with fail
    exact ret_row_tmp rfl rfl K0.out Try.underlying50 rfl (by kernel_rfl) rfl ⟨.slice none 0 0, .slice none 0 0, rfl, by rw [E.out.1, E.out.2]; exact Two.none _ _, He.out⟩
  obtain ⟨hw, h4, hall⟩ := names_ok hok1.symm
  have E : Hid (darkC n l = l.map (cliZ n) ∧ darkS n l = l.map (scnZ n)) := Lib.hid (by simp [darkC, darkS, ← hok1])
  have Q := Lib.hid hok1; clear hok1
  have Hall := Lib.hid hall; clear hall hw
  obtain ⟨i0, hi0, hz0, hz1, hz2⟩ := info_parts info_client
  obtain ⟨i1, hi1, hy0, hy1, hy2⟩ := info_parts info_scanner
  go_enter Try.func19, Try.ntmps19
  go_wp2_with fail
  refine (implNamesOk_any n A c l _ (HR.out.ext He.out) hok).mono ?_
  rintro e w1 ⟨rfl, rfl⟩
  rw [← Q.out]
  have K1 := Lib.hid ((K0.out.alloc (.cells #[.slice none 0 0, .slice none 0 0, .slice none 0 0, .slice none 0 0, .slice none 0 0, .slice none 0 0] 50)))
  have k2 := Blk.new (w.alloc (.cells #[.slice none 0 0, .slice none 0 0, .slice none 0 0, .slice none 0 0, .slice none 0 0, .slice none 0 0] 50)) 50 #[.slice none 0 0, .slice none 0 0, .slice none 0 0, .slice none 0 0, .slice none 0 0, .slice none 0 0]
  rw [World.size_alloc] at k2
  have K2 := Lib.hid k2
  have E1 := Lib.hid (Ext.new He.out (.cells #[.slice none 0 0, .slice none 0 0, .slice none 0 0, .slice none 0 0, .slice none 0 0, .slice none 0 0] 50))
  clear k2 K0 He
  go_wp2_with fail
  obtain ⟨g, hg⟩ : ∃ g, g = w.heap.size := ⟨_, rfl⟩
  rw [← hg] at K1 K2
  rw [← hg]
  have hg0 : w.heap.size ≤ g := by omega
  have hgt : g + 1 < ((w.alloc (.cells #[.slice none 0 0, .slice none 0 0, .slice none 0 0, .slice none 0 0, .slice none 0 0, .slice none 0 0] 50)).alloc (.cells #[.slice none 0 0, .slice none 0 0, .slice none 0 0, .slice none 0 0, .slice none 0 0, .slice none 0 0] 50)).heap.size := K2.out.lt
  clear hg
  generalize (w.alloc (.cells #[.slice none 0 0, .slice none 0 0, .slice none 0 0, .slice none 0 0, .slice none 0 0, .slice none 0 0] 50)).alloc (.cells #[.slice none 0 0, .slice none 0 0, .slice none 0 0, .slice none 0 0, .slice none 0 0, .slice none 0 0] 50) = w1 at *
  go_loopw [20] (fun i wr => ∃ (k : Nat) (v0 v1 : Value), k ≤ l.length ∧ i = .int .i64 k ∧ Two (g + 2) wr v0 v1 k ((l.take k).map (cliZ n)) ((l.take k).map (scnZ n)) ∧ Blk wr g 50 #[.slice none 0 0, .slice none 0 0, .slice none 0 0, .slice none 0 0, .slice none 0 0, .slice none 0 0] ∧ Blk wr (g + 1) 50 #[v0, v1, .slice none 0 0, .slice none 0 0, .slice none 0 0, .slice none 0 0] ∧ Ext w wr) (fun i _ => l.length - (intOf i).toNat)
  case atStart => exact ⟨0, _, _, Nat.zero_le _, rfl, Two.none _ _, K1.out, K2.out, E1.out⟩
  case round =>
    clear K1 K2 E1
    obtain ⟨k, v0, v1, hk, rfl, hT, hA, hB, he⟩ := hrel
    have KA := Lib.hid hA; have KB := Lib.hid hB; have KT := Lib.hid hT
    clear hA hT
    obtain ⟨V0, cv0, rfl, hnc0⟩ := ownsRow_form KT.out.1
    obtain ⟨V1, cv1, rfl, hnc1⟩ := ownsRow_form KT.out.2.1
    obtain ⟨r0, f0⟩ := hB.rules
    by_cases hlt : k < l.length
    case neg =>
      obtain rfl : k = l.length := by omega
      obtain ⟨r1, f1⟩ := KA.out.rules
      have hz := KA.out.put 0 [.slice V0 l.length cv0, .slice V1 l.length cv1, .slice none 0 0, .slice none 0 0, .slice none 0 0, .slice none 0 0] #[.slice V0 l.length cv0, .slice V1 l.length cv1, .slice none 0 0, .slice none 0 0, .slice none 0 0, .slice none 0 0] (by simp) rfl
      have hx := ext_setCells (W := w) (g := g) hg0 [.slice V0 l.length cv0, .slice V1 l.length cv1, .slice none 0 0, .slice none 0 0, .slice none 0 0, .slice none 0 0] 0 _ he
      have hgr := grow_setCells g [.slice V0 l.length cv0, .slice V1 l.length cv1, .slice none 0 0, .slice none 0 0, .slice none 0 0, .slice none 0 0] 0 wr wr ⟨rfl, rfl, rfl, Nat.le_refl _, fun _ _ _ => rfl⟩
      have T1 := Lib.hid (show Two w.heap.size _ (.slice V0 l.length cv0) (.slice V1 l.length cv1) (darkC n l).length (darkC n l) (darkS n l) from by
        have k0 := KT.out
        rw [E.out.1, E.out.2, List.length_map]
        simp only [List.take_length] at k0
        exact ⟨ownsRow_base (ownsRow_far k0.1 hgr (by omega)) (by omega), ownsRow_base (ownsRow_far k0.2.1 hgr (by omega)) (by omega), k0.2.2⟩)
      have Z := Lib.hid hz; have X := Lib.hid hx
      clear hB hz hx hgr KT KA KB
      go_wp2_with fail
      exact ret_row_tmp rfl rfl Z.out Try.underlying50 rfl (by kernel_rfl) rfl ⟨_, _, rfl, T1.out, X.out⟩
    obtain ⟨b, off, rfl, hb, hc⟩ := Reads.at_ (HR.out.ext he).reads (k := k) hlt
    obtain ⟨d, hd⟩ : ∃ d, d = l[k] := ⟨_, rfl⟩
    have hdl : l[k]? = some d := by rw [hd]; exact List.getElem?_eq_getElem hlt
    have hds := hok d (List.mem_of_getElem? hdl)
    have hn := Hall.out d (List.mem_of_getElem? hdl)
    have c0 := hc 0 _ (flat_at _ 1 sone_length l k 0 d hdl (by omega))
    rw [Nat.add_zero, Nat.mul_one] at c0
    have Hdl := Lib.hid hdl
    clear hc hd hdl
    have CC := Lib.hid (fun W => implClientNew_any n d W hds)
    have CS := Lib.hid (fun W => implScannerNew_any n d W hds)
    simp only [newC_z hn, newS_z hn, hn] at CC CS
    go_wp2_with fail
    refine (CC.out _).mono ?_
    rintro e w2 ⟨rfl, h1⟩
    replace he := he.next h1; replace KA := Lib.hid (KA.out.ext h1); have hB2 := KB.out.ext h1; replace KT := Lib.hid (KT.out.ext h1)
    clear h1 r0 f0 hB KB c0 CC
    have hgl := hB2.lt
    obtain ⟨h, hh⟩ : ∃ h, h = newH true n := ⟨_, rfl⟩
    have e1 : (cliZ n d).cells = (#[.int .i64 n, .string d, .int .i64 h.number, .int .i64 h.size, .string h.root, .int .i64 h.taken, .string h.takenRoot, .slice none 0 0] : Array Value).toList := by rw [hh]; rfl
    have e2 : (scnZ n d).cells = (#[.int .i64 n, .string d, .int .i64 h.number, .int .i64 h.size, .string h.root, .int .i64 h.taken, .string h.takenRoot, .slice none 0 0, .int .i64 0, .slice none 0 0] : Array Value).toList := by rw [hh]; rfl
    rw [e1]
    simp only [e2] at CS
    have X1 := Lib.hid e1; have X2 := Lib.hid e2
    clear e1 e2 hh
    go_upto_region 8 with fail
    have z1 := Blk.new w2 77 #[.int .i64 n, .string d, .int .i64 h.number, .int .i64 h.size, .string h.root, .int .i64 h.taken, .string h.takenRoot, .slice none 0 0]
    replace he := he.new (.cells #[.int .i64 n, .string d, .int .i64 h.number, .int .i64 h.size, .string h.root, .int .i64 h.taken, .string h.takenRoot, .slice none 0 0] 77); replace KA := Lib.hid (KA.out.alloc (.cells #[.int .i64 n, .string d, .int .i64 h.number, .int .i64 h.size, .string h.root, .int .i64 h.taken, .string h.takenRoot, .slice none 0 0] 77)); replace hB2 := hB2.alloc (.cells #[.int .i64 n, .string d, .int .i64 h.number, .int .i64 h.size, .string h.root, .int .i64 h.taken, .string h.takenRoot, .slice none 0 0] 77); replace KT := Lib.hid (KT.out.ext (Ext.new (Below.refl _ _) (.cells #[.int .i64 n, .string d, .int .i64 h.number, .int .i64 h.size, .string h.root, .int .i64 h.taken, .string h.takenRoot, .slice none 0 0] 77)))
    obtain ⟨q, hq⟩ : ∃ q, q = w2.heap.size := ⟨_, rfl⟩
    rw [← hq] at z1 hgl
    rw [← hq]
    clear hq
    generalize w2.alloc (.cells #[.int .i64 n, .string d, .int .i64 h.number, .int .i64 h.size, .string h.root, .int .i64 h.taken, .string h.takenRoot, .slice none 0 0] 77) = w3 at *
    go_wp2_with fail
    refine (CS.out _).mono ?_
    rintro e w4 ⟨rfl, h1⟩
    replace he := he.next h1; replace KA := Lib.hid (KA.out.ext h1); replace hB2 := hB2.ext h1; replace KT := Lib.hid (KT.out.ext h1); replace z1 := z1.ext h1
    clear h1 CS
    have hq4 := z1.lt
    have L0 := Lib.hid KT.out.1.lt; have L1 := Lib.hid KT.out.2.1.lt
    go_upto_region 9 with fail
    have z2 := Blk.new w4 81 #[.int .i64 n, .string d, .int .i64 h.number, .int .i64 h.size, .string h.root, .int .i64 h.taken, .string h.takenRoot, .slice none 0 0, .int .i64 0, .slice none 0 0]
    replace he := he.new (.cells #[.int .i64 n, .string d, .int .i64 h.number, .int .i64 h.size, .string h.root, .int .i64 h.taken, .string h.takenRoot, .slice none 0 0, .int .i64 0, .slice none 0 0] 81); replace KA := Lib.hid (KA.out.alloc (.cells #[.int .i64 n, .string d, .int .i64 h.number, .int .i64 h.size, .string h.root, .int .i64 h.taken, .string h.takenRoot, .slice none 0 0, .int .i64 0, .slice none 0 0] 81)); replace hB2 := hB2.alloc (.cells #[.int .i64 n, .string d, .int .i64 h.number, .int .i64 h.size, .string h.root, .int .i64 h.taken, .string h.takenRoot, .slice none 0 0, .int .i64 0, .slice none 0 0] 81); replace KT := Lib.hid (KT.out.ext (Ext.new (Below.refl _ _) (.cells #[.int .i64 n, .string d, .int .i64 h.number, .int .i64 h.size, .string h.root, .int .i64 h.taken, .string h.takenRoot, .slice none 0 0, .int .i64 0, .slice none 0 0] 81))); replace z1 := z1.alloc (.cells #[.int .i64 n, .string d, .int .i64 h.number, .int .i64 h.size, .string h.root, .int .i64 h.taken, .string h.takenRoot, .slice none 0 0, .int .i64 0, .slice none 0 0] 81)
    obtain ⟨q2, hq2⟩ : ∃ q2, q2 = w4.heap.size := ⟨_, rfl⟩
    rw [← hq2] at z2 hq4 L0 L1
    rw [← hq2]
    clear hq2
    generalize w4.alloc (.cells #[.int .i64 n, .string d, .int .i64 h.number, .int .i64 h.size, .string h.root, .int .i64 h.taken, .string h.takenRoot, .slice none 0 0, .int .i64 0, .slice none 0 0] 81) = w5 at *
    have hs5 := z2.lt
    obtain ⟨r0, f0⟩ := hB2.rules
    obtain ⟨r1, f1⟩ := z1.rules
    have Z2 := Lib.hid z2; clear z2
    go_wp2_with (at_builtin; (refine wpList_append_moved _ rfl _ _ 44 rfl (g + 2) 77 i0 _ 8 104 Try.underlying44 hi0 hz0 hz1 hz2 rfl (by decide) _ _ _ rfl (KT.out.1.alloc _) ⟨w5.heap.size, 0, none⟩ 1 1 (#[.int .i64 n, .string d, .int .i64 h.number, .int .i64 h.size, .string h.root, .int .i64 h.taken, .string h.takenRoot, .slice none 0 0] : Array Value).toList rfl rfl ?c1 ?c2 ?c3 ?c4 ?c5 ?_))
    case c2 => exact ⟨rfl, rfl, rfl, rfl, rfl, rfl, rfl, rfl⟩
    case c3 => unfold maxLen; omega
    case c4 => omega
    case c5 => simp; omega
    intro v' w6 hown' hfrm hmv
    obtain ⟨V2, cv2, rfl, hnc2⟩ := ownsRow_form hown'
    have KA6 := hfrm.blk (KA.out.alloc _) (fun e => by have := (L0.out _ e).1; omega)
    have KB6 := hfrm.blk (hB2.alloc _) (fun e => by have := (L0.out _ e).1; omega)
    have KZ6 := hfrm.blk (Z2.out.alloc _) (fun e => by have := (L0.out _ e).2; omega)
    have R16 := hfrm.own (KT.out.2.1.alloc _) (fun x hx e => KT.out.2.2 x e hx)
    have he6 : Ext w w6 := hfrm.toExt (he.new _) (fun x hx e => by have := (L0.out _ e).1; omega)
    have hS6 := Nat.le_trans (Nat.le_of_lt hs5) (Nat.le_trans (Nat.le_succ _) (by have := hfrm.size; simpa using this))
    have hd6 : ∀ x, (Value.slice V2 (k + 1) cv2).ownBlock = some x → (Value.slice V1 k cv1).ownBlock = some x → False := fun x h1 h2 => by
      rcases hmv x h1 with h3 | h3
      · exact KT.out.2.2 x h3 h2
      · have := (L1.out _ h2).2; omega
    have hgr7 := grow_setCells (g + 1) [.slice V2 (k + 1) cv2] 0 w6 w6 ⟨rfl, rfl, rfl, Nat.le_refl _, fun _ _ _ => rfl⟩
    obtain ⟨w7, hw7, Y0, y1, Y2, Y3, Y4, he7, hs7⟩ : ∃ w7, w7 = w6.setCell ⟨g + 1, 0, none⟩ (.slice V2 (k + 1) cv2) ∧ Blk w7 g 50 #[.slice none 0 0, .slice none 0 0, .slice none 0 0, .slice none 0 0, .slice none 0 0, .slice none 0 0] ∧ Blk w7 (g + 1) 50 #[.slice V2 (k + 1) cv2, .slice V1 k cv1, .slice none 0 0, .slice none 0 0, .slice none 0 0, .slice none 0 0] ∧ Blk w7 q2 81 #[.int .i64 n, .string d, .int .i64 h.number, .int .i64 h.size, .string h.root, .int .i64 h.taken, .string h.takenRoot, .slice none 0 0, .int .i64 0, .slice none 0 0] ∧
      w7.ownsRow (g + 2) 77 8 (.slice V2 (k + 1) cv2) (k + 1) (((l.take (k + 1)).map (cliZ n)).flatMap CliZ.cells) ∧ w7.ownsRow (g + 2) 81 10 (.slice V1 k cv1) k (((l.take k).map (scnZ n)).flatMap ScnZ.cells) ∧ Ext w w7 ∧ q2 < w7.heap.size :=
      ⟨_, rfl, KA6.farCells (g' := g + 1) (by omega) [.slice V2 (k + 1) cv2] 0, KB6.put 0 [.slice V2 (k + 1) cv2] #[.slice V2 (k + 1) cv2, .slice V1 k cv1, .slice none 0 0, .slice none 0 0, .slice none 0 0, .slice none 0 0] (by simp) rfl, KZ6.farCells (g' := g + 1) (by omega) [.slice V2 (k + 1) cv2] 0,
        by
          have := ownsRow_far hown' hgr7 (by omega)
          obtain ⟨hkl, hkd⟩ := List.getElem?_eq_some_iff.1 Hdl.out
          rw [List.take_succ_eq_append_getElem hkl, hkd, List.map_append, List.flatMap_append]
          simp only [List.map_cons, List.map_nil, List.flatMap_cons, List.flatMap_nil, List.append_nil, X1.out]
          simp only [List.map_take] at this ⊢
          exact this,
        ownsRow_far R16 hgr7 (by omega), ext_setCells (W := w) (g := g + 1) (by omega) [.slice V2 (k + 1) cv2] 0 _ he6, by
          have := hgr7.size; have hq := KZ6.lt; exact Nat.lt_of_lt_of_le hq this⟩
    have HW := Lib.hid hw7
    obtain ⟨r6, f6⟩ := KB6.rules
    clear KA6 KZ6 R16 hown' hfrm hmv he he6 hgr7 KA KT hB2 z1 Z2 r0 f0 r1 f1 hs5 L0 L1 hw7 hS6
    go_upto_region 10 with fail
    rw [← HW.out]
    clear r6 f6 KB6 HW
    have hB7 := y1
    have Y1 := Lib.hid y1; clear y1
    replace Y0 := Lib.hid Y0; replace Y3 := Lib.hid Y3; replace Y4 := Lib.hid Y4
    have HD6 := Lib.hid hd6; clear hd6
    obtain ⟨r0, f0⟩ := hB7.rules
    obtain ⟨r1, f1⟩ := Y2.rules
    have L2 := Lib.hid Y3.out.lt
    have L3 := Lib.hid Y4.out.lt
    go_wp2_with (at_builtin; (refine wpList_append_moved _ rfl _ _ 45 rfl (g + 2) 81 i1 _ 10 136 Try.underlying45 hi1 hy0 hy1 hy2 rfl (by decide) _ _ _ rfl (Y4.out.alloc _) ⟨w7.heap.size, 0, none⟩ 1 1 (#[.int .i64 n, .string d, .int .i64 h.number, .int .i64 h.size, .string h.root, .int .i64 h.taken, .string h.takenRoot, .slice none 0 0, .int .i64 0, .slice none 0 0] : Array Value).toList rfl rfl ?k1 ?k2 ?k3 ?k4 ?k5 ?_))
    case k2 => exact ⟨rfl, rfl, rfl, rfl, rfl, rfl, rfl, rfl, rfl, rfl⟩
    case k3 => unfold maxLen; omega
    case k4 => omega
    case k5 => simp; omega
    intro v' w8 hown' hfrm hmv
    obtain ⟨V3, cv3, rfl, hnc3⟩ := ownsRow_form hown'
    have KA8 := hfrm.blk (Y0.out.alloc _) (fun e => by have := (L3.out _ e).1; omega)
    have KB8 := hfrm.blk (Y1.out.alloc _) (fun e => by have := (L3.out _ e).1; omega)
    have R08 := hfrm.own (Y3.out.alloc _) (fun x hx e => HD6.out x hx e)
    have he8 : Ext w w8 := hfrm.toExt (he7.new _) (fun x hx e => by have := (L3.out _ e).1; omega)
    have hd8 : ∀ x, (Value.slice V2 (k + 1) cv2).ownBlock = some x → (Value.slice V3 (k + 1) cv3).ownBlock = some x → False := fun x h1 h2 => by
      rcases hmv x h2 with h3 | h3
      · exact HD6.out x h1 h3
      · have := (L2.out _ h1).2; omega
    have hgr9 := grow_setCells (g + 1) [.slice V3 (k + 1) cv3] 1 w8 w8 ⟨rfl, rfl, rfl, Nat.le_refl _, fun _ _ _ => rfl⟩
    obtain ⟨w9, hw9, Z0, Z1, Z3, Z4, he9⟩ : ∃ w9, w9 = w8.setCell ⟨g + 1, 1, none⟩ (.slice V3 (k + 1) cv3) ∧ Blk w9 g 50 #[.slice none 0 0, .slice none 0 0, .slice none 0 0, .slice none 0 0, .slice none 0 0, .slice none 0 0] ∧ Blk w9 (g + 1) 50 #[.slice V2 (k + 1) cv2, .slice V3 (k + 1) cv3, .slice none 0 0, .slice none 0 0, .slice none 0 0, .slice none 0 0] ∧
      w9.ownsRow (g + 2) 77 8 (.slice V2 (k + 1) cv2) (k + 1) (((l.take (k + 1)).map (cliZ n)).flatMap CliZ.cells) ∧ w9.ownsRow (g + 2) 81 10 (.slice V3 (k + 1) cv3) (k + 1) (((l.take (k + 1)).map (scnZ n)).flatMap ScnZ.cells) ∧ Ext w w9 :=
      ⟨_, rfl, KA8.farCells (g' := g + 1) (by omega) [.slice V3 (k + 1) cv3] 1, KB8.put 1 [.slice V3 (k + 1) cv3] #[.slice V2 (k + 1) cv2, .slice V3 (k + 1) cv3, .slice none 0 0, .slice none 0 0, .slice none 0 0, .slice none 0 0] (by simp) rfl, ownsRow_far R08 hgr9 (by omega),
        by
          have := ownsRow_far hown' hgr9 (by omega)
          obtain ⟨hkl, hkd⟩ := List.getElem?_eq_some_iff.1 Hdl.out
          rw [List.take_succ_eq_append_getElem hkl, hkd, List.map_append, List.flatMap_append]
          simp only [List.map_cons, List.map_nil, List.flatMap_cons, List.flatMap_nil, List.append_nil, X2.out]
          simp only [List.map_take] at this ⊢
          exact this,
        ext_setCells (W := w) (g := g + 1) (by omega) [.slice V3 (k + 1) cv3] 1 _ he8⟩
    have HW := Lib.hid hw9
    obtain ⟨r8, f8⟩ := KB8.rules
    clear hw9 KA8 R08 hown' hfrm hmv he7 he8 hgr9 Y0 Y1 Y2 Y3 Y4 r0 f0 r1 f1 hB7 L2 L3 HD6
    have ZZ := Lib.hid (⟨Z3, Z4, hd8⟩ : Two (g + 2) w9 _ _ (k + 1) _ _)
    replace Z0 := Lib.hid Z0; replace Z1 := Lib.hid Z1
    clear Z3 Z4 hd8
    go_wp2_with fail
    rw [← HW.out]
    go_roundw
    case rel => exact ⟨k + 1, _, _, by omega, by go_num, ZZ.out, Z0.out, Z1.out, he9⟩
    case measure => simp [intOf]; omega
set_option maxHeartbeats 4000000 in
set_option maxRecDepth 100000 in
theorem specDarkNew_any (n : Int) (A : Option Addr) (c : Nat) (l : List ByteArray) (w : World) (hr : SlF AnyB sone 1 w A l c) (hok : ∀ s ∈ l, s.size ≤ maxLen) :
    Calls Try.prog 17 #[.int .i64 n, .slice A l.length c] w fun e w' => ∃ v0 v1, e = .returned (.tuple #[.agg (darkV v0 v1).toArray, .bool (inR n 1 32 && namesB l)]) ∧ Two w.heap.size w' v0 v1 (darkC n l).length (darkC n l) (darkS n l) ∧ Ext w w' := by
  have K0 := Lib.hid (Blk.new w 50 #[.slice none 0 0, .slice none 0 0, .slice none 0 0, .slice none 0 0, .slice none 0 0, .slice none 0 0])
  have He := Lib.hid (Ext.new (Below.refl w.heap.size w) (.cells #[.slice none 0 0, .slice none 0 0, .slice none 0 0, .slice none 0 0, .slice none 0 0, .slice none 0 0] 50))
  have HR := Lib.hid hr
  have hle := hr.le
  have hcm := hr.cap
  unfold maxLen at hcm
  obtain ⟨ok, hok1⟩ : ∃ ok, ok = (inR n 1 32 && namesB l) := ⟨_, rfl⟩
  rw [← hok1]
  cases q1 : inR n 1 32
  · rw [q1, Bool.false_and] at hok1
    subst hok1
    have E : Hid (darkC n l = [] ∧ darkS n l = []) := Lib.hid (by simp [darkC, darkS, q1])
    go_enter Try.func17, Try.ntmps17
    go_wp2_with (go_at_call 39; refine (l02Width_any _ _).mono ?_; rintro e w' ⟨rfl, rfl⟩; rw [q1])
    exact ret_row_tmp rfl rfl K0.out Try.underlying50 rfl (by kernel_rfl) rfl ⟨.slice none 0 0, .slice none 0 0, rfl, by rw [E.out.1, E.out.2]; exact Two.none _ _, He.out⟩
  have Q1 := Lib.hid hok1
  rw [q1, Bool.true_and] at hok1
  have hok2 := Q1.out
  cases ok
  · have E : Hid (darkC n l = [] ∧ darkS n l = []) := Lib.hid (by simp [darkC, darkS, ← hok2])
    have Q := Lib.hid hok1; clear hok1 hok2 Q1
    go_enter Try.func17, Try.ntmps17
    go_wp2_with (go_at_call 39; refine (l02Width_any _ _).mono ?_; rintro e w' ⟨rfl, rfl⟩; rw [q1])
    refine (specNamesOk_any A c l _ (HR.out.ext He.out) hok).mono ?_
    rintro e w1 ⟨rfl, h1⟩
    rw [← Q.out]
    have k0 := K0.out.ext h1; have he := He.out.next h1
    obtain ⟨r0, f0⟩ := k0.rules
    have hz := k0.put 0 [.slice none 0 0, .slice none 0 0, .slice none 0 0, .slice none 0 0, .slice none 0 0, .slice none 0 0] #[.slice none 0 0, .slice none 0 0, .slice none 0 0, .slice none 0 0, .slice none 0 0, .slice none 0 0] (by simp) rfl
    have hx := ext_setCells (W := w) (g := w.heap.size) (Nat.le_refl _) [.slice none 0 0, .slice none 0 0, .slice none 0 0, .slice none 0 0, .slice none 0 0, .slice none 0 0] 0 _ he
    have ZZ := Lib.hid hz; have XX := Lib.hid hx
    clear hz hx
    go_wp2_with fail
    exact ret_row_tmp rfl rfl ZZ.out Try.underlying50 rfl (by kernel_rfl) rfl ⟨.slice none 0 0, .slice none 0 0, rfl, by rw [E.out.1, E.out.2]; exact Two.none _ _, XX.out⟩
  obtain ⟨hw, h4, hall⟩ := names_ok hok2.symm
  have E : Hid (darkC n l = l.map (cliZ n) ∧ darkS n l = l.map (scnZ n)) := Lib.hid (by simp [darkC, darkS, ← hok2])
  have Q := Lib.hid hok1; clear hok1 hok2 Q1
  have Hall := Lib.hid hall; clear hall hw
  obtain ⟨i0, hi0, hz0, hz1, hz2⟩ := info_parts info_client
  obtain ⟨i1, hi1, hy0, hy1, hy2⟩ := info_parts info_scanner
  go_enter Try.func17, Try.ntmps17
  go_wp2_with (go_at_call 39; refine (l02Width_any _ _).mono ?_; rintro e w' ⟨rfl, rfl⟩; rw [q1])
  obtain ⟨g, hg⟩ : ∃ g, g = w.heap.size := ⟨_, rfl⟩
  refine (specNamesOk_any A c l _ (HR.out.ext He.out) hok).mono ?_
  rintro e w0 ⟨rfl, h1⟩
  rw [← Q.out]
  have k0 := K0.out.ext h1; have he0 := He.out.next h1
  clear h1 K0 He
  have hgl := k0.lt
  rw [← hg] at k0 hgl
  rw [← hg]
  have hg0 : w.heap.size ≤ g := by omega
  clear hg
  go_upto_region 4 with fail
  have K1 := Lib.hid (k0.alloc (.cells #[.slice none 0 0, .slice none 0 0, .slice none 0 0, .slice none 0 0, .slice none 0 0, .slice none 0 0] 50))
  have K2 := Lib.hid (Blk.new w0 50 #[.slice none 0 0, .slice none 0 0, .slice none 0 0, .slice none 0 0, .slice none 0 0, .slice none 0 0])
  have E1 := Lib.hid (Ext.new he0 (.cells #[.slice none 0 0, .slice none 0 0, .slice none 0 0, .slice none 0 0, .slice none 0 0, .slice none 0 0] 50))
  clear k0 he0
  obtain ⟨g2, hg2⟩ : ∃ g2, g2 = w0.heap.size := ⟨_, rfl⟩
  rw [← hg2] at K2 hgl
  rw [← hg2]
  clear hg2
  have hgt : g2 < (w0.alloc (.cells #[.slice none 0 0, .slice none 0 0, .slice none 0 0, .slice none 0 0, .slice none 0 0, .slice none 0 0] 50)).heap.size := K2.out.lt
  generalize w0.alloc (.cells #[.slice none 0 0, .slice none 0 0, .slice none 0 0, .slice none 0 0, .slice none 0 0, .slice none 0 0] 50) = w1 at *
  go_wp2_with fail
  go_loopw [7] (fun i wr => ∃ (k : Nat) (v0 v1 : Value), k ≤ l.length ∧ i = .int .i64 k ∧ Two (g2 + 1) wr v0 v1 k ((l.take k).map (cliZ n)) ((l.take k).map (scnZ n)) ∧ Blk wr g 50 #[.slice none 0 0, .slice none 0 0, .slice none 0 0, .slice none 0 0, .slice none 0 0, .slice none 0 0] ∧ Blk wr g2 50 #[v0, v1, .slice none 0 0, .slice none 0 0, .slice none 0 0, .slice none 0 0] ∧ Ext w wr) (fun i _ => l.length - (intOf i).toNat)
  case atStart => exact ⟨0, _, _, Nat.zero_le _, rfl, Two.none _ _, K1.out, K2.out, E1.out⟩
  case round =>
    clear K1 K2 E1
    obtain ⟨k, v0, v1, hk, rfl, hT, hA, hB, he⟩ := hrel
    have KA := Lib.hid hA; have KB := Lib.hid hB; have KT := Lib.hid hT
    clear hA hT
    obtain ⟨V0, cv0, rfl, hnc0⟩ := ownsRow_form KT.out.1
    obtain ⟨V1, cv1, rfl, hnc1⟩ := ownsRow_form KT.out.2.1
    obtain ⟨r0, f0⟩ := hB.rules
    by_cases hlt : k < l.length
    case neg =>
      obtain rfl : k = l.length := by omega
      obtain ⟨r1, f1⟩ := KA.out.rules
      have hz := KA.out.put 0 [.slice V0 l.length cv0, .slice V1 l.length cv1, .slice none 0 0, .slice none 0 0, .slice none 0 0, .slice none 0 0] #[.slice V0 l.length cv0, .slice V1 l.length cv1, .slice none 0 0, .slice none 0 0, .slice none 0 0, .slice none 0 0] (by simp) rfl
      have hx := ext_setCells (W := w) (g := g) hg0 [.slice V0 l.length cv0, .slice V1 l.length cv1, .slice none 0 0, .slice none 0 0, .slice none 0 0, .slice none 0 0] 0 _ he
      have hgr := grow_setCells g [.slice V0 l.length cv0, .slice V1 l.length cv1, .slice none 0 0, .slice none 0 0, .slice none 0 0, .slice none 0 0] 0 wr wr ⟨rfl, rfl, rfl, Nat.le_refl _, fun _ _ _ => rfl⟩
      have T1 := Lib.hid (show Two w.heap.size _ (.slice V0 l.length cv0) (.slice V1 l.length cv1) (darkC n l).length (darkC n l) (darkS n l) from by
        have k0 := KT.out
        rw [E.out.1, E.out.2, List.length_map]
        simp only [List.take_length] at k0
        exact ⟨ownsRow_base (ownsRow_far k0.1 hgr (by omega)) (by omega), ownsRow_base (ownsRow_far k0.2.1 hgr (by omega)) (by omega), k0.2.2⟩)
      have Z := Lib.hid hz; have X := Lib.hid hx
      clear hB hz hx hgr KT KA KB
      go_wp2_with fail
      exact ret_row_tmp rfl rfl Z.out Try.underlying50 rfl (by kernel_rfl) rfl ⟨_, _, rfl, T1.out, X.out⟩
    obtain ⟨b, off, rfl, hb, hc⟩ := Reads.at_ (HR.out.ext he).reads (k := k) hlt
    obtain ⟨d, hd⟩ : ∃ d, d = l[k] := ⟨_, rfl⟩
    have hdl : l[k]? = some d := by rw [hd]; exact List.getElem?_eq_getElem hlt
    have hds := hok d (List.mem_of_getElem? hdl)
    have hn := Hall.out d (List.mem_of_getElem? hdl)
    have c0 := hc 0 _ (flat_at _ 1 sone_length l k 0 d hdl (by omega))
    rw [Nat.add_zero, Nat.mul_one] at c0
    have Hdl := Lib.hid hdl
    clear hc hd hdl
    have CC := Lib.hid (fun W => specClientNew_any n d W hds)
    have CS := Lib.hid (fun W => specScannerNew_any n d W hds)
    simp only [newC_z hn, newS_z hn, hn] at CC CS
    go_wp2_with fail
    refine (CC.out _).mono ?_
    rintro e w2 ⟨rfl, h1⟩
    replace he := he.next h1; replace KA := Lib.hid (KA.out.ext h1); have hB2 := KB.out.ext h1; replace KT := Lib.hid (KT.out.ext h1)
    clear h1 r0 f0 hB KB c0 CC
    have hgl := hB2.lt
    obtain ⟨h, hh⟩ : ∃ h, h = newH true n := ⟨_, rfl⟩
    have e1 : (cliZ n d).cells = (#[.int .i64 n, .string d, .int .i64 h.number, .int .i64 h.size, .string h.root, .int .i64 h.taken, .string h.takenRoot, .slice none 0 0] : Array Value).toList := by rw [hh]; rfl
    have e2 : (scnZ n d).cells = (#[.int .i64 n, .string d, .int .i64 h.number, .int .i64 h.size, .string h.root, .int .i64 h.taken, .string h.takenRoot, .slice none 0 0, .int .i64 0, .slice none 0 0] : Array Value).toList := by rw [hh]; rfl
    rw [e1]
    simp only [e2] at CS
    have X1 := Lib.hid e1; have X2 := Lib.hid e2
    clear e1 e2 hh
    go_upto_region 8 with fail
    have z1 := Blk.new w2 77 #[.int .i64 n, .string d, .int .i64 h.number, .int .i64 h.size, .string h.root, .int .i64 h.taken, .string h.takenRoot, .slice none 0 0]
    replace he := he.new (.cells #[.int .i64 n, .string d, .int .i64 h.number, .int .i64 h.size, .string h.root, .int .i64 h.taken, .string h.takenRoot, .slice none 0 0] 77); replace KA := Lib.hid (KA.out.alloc (.cells #[.int .i64 n, .string d, .int .i64 h.number, .int .i64 h.size, .string h.root, .int .i64 h.taken, .string h.takenRoot, .slice none 0 0] 77)); replace hB2 := hB2.alloc (.cells #[.int .i64 n, .string d, .int .i64 h.number, .int .i64 h.size, .string h.root, .int .i64 h.taken, .string h.takenRoot, .slice none 0 0] 77); replace KT := Lib.hid (KT.out.ext (Ext.new (Below.refl _ _) (.cells #[.int .i64 n, .string d, .int .i64 h.number, .int .i64 h.size, .string h.root, .int .i64 h.taken, .string h.takenRoot, .slice none 0 0] 77)))
    obtain ⟨q, hq⟩ : ∃ q, q = w2.heap.size := ⟨_, rfl⟩
    rw [← hq] at z1 hgl
    rw [← hq]
    clear hq
    generalize w2.alloc (.cells #[.int .i64 n, .string d, .int .i64 h.number, .int .i64 h.size, .string h.root, .int .i64 h.taken, .string h.takenRoot, .slice none 0 0] 77) = w3 at *
    obtain ⟨bb, oo, ee, _, hc3⟩ := Reads.at_ (HR.out.ext he).reads (k := k) hlt
    cases ee
    have c0 := hc3 0 _ (flat_at _ 1 sone_length l k 0 d Hdl.out (by omega))
    rw [Nat.add_zero, Nat.mul_one] at c0
    clear hc3
    go_wp2_with fail
    refine (CS.out _).mono ?_
    rintro e w4 ⟨rfl, h1⟩
    replace he := he.next h1; replace KA := Lib.hid (KA.out.ext h1); replace hB2 := hB2.ext h1; replace KT := Lib.hid (KT.out.ext h1); replace z1 := z1.ext h1
    clear h1 CS
    clear c0
    have hq4 := z1.lt
    have L0 := Lib.hid KT.out.1.lt; have L1 := Lib.hid KT.out.2.1.lt
    go_upto_region 9 with fail
    have z2 := Blk.new w4 81 #[.int .i64 n, .string d, .int .i64 h.number, .int .i64 h.size, .string h.root, .int .i64 h.taken, .string h.takenRoot, .slice none 0 0, .int .i64 0, .slice none 0 0]
    replace he := he.new (.cells #[.int .i64 n, .string d, .int .i64 h.number, .int .i64 h.size, .string h.root, .int .i64 h.taken, .string h.takenRoot, .slice none 0 0, .int .i64 0, .slice none 0 0] 81); replace KA := Lib.hid (KA.out.alloc (.cells #[.int .i64 n, .string d, .int .i64 h.number, .int .i64 h.size, .string h.root, .int .i64 h.taken, .string h.takenRoot, .slice none 0 0, .int .i64 0, .slice none 0 0] 81)); replace hB2 := hB2.alloc (.cells #[.int .i64 n, .string d, .int .i64 h.number, .int .i64 h.size, .string h.root, .int .i64 h.taken, .string h.takenRoot, .slice none 0 0, .int .i64 0, .slice none 0 0] 81); replace KT := Lib.hid (KT.out.ext (Ext.new (Below.refl _ _) (.cells #[.int .i64 n, .string d, .int .i64 h.number, .int .i64 h.size, .string h.root, .int .i64 h.taken, .string h.takenRoot, .slice none 0 0, .int .i64 0, .slice none 0 0] 81))); replace z1 := z1.alloc (.cells #[.int .i64 n, .string d, .int .i64 h.number, .int .i64 h.size, .string h.root, .int .i64 h.taken, .string h.takenRoot, .slice none 0 0, .int .i64 0, .slice none 0 0] 81)
    obtain ⟨q2, hq2⟩ : ∃ q2, q2 = w4.heap.size := ⟨_, rfl⟩
    rw [← hq2] at z2 hq4 L0 L1
    rw [← hq2]
    clear hq2
    generalize w4.alloc (.cells #[.int .i64 n, .string d, .int .i64 h.number, .int .i64 h.size, .string h.root, .int .i64 h.taken, .string h.takenRoot, .slice none 0 0, .int .i64 0, .slice none 0 0] 81) = w5 at *
    have hs5 := z2.lt
    obtain ⟨r0, f0⟩ := hB2.rules
    obtain ⟨r1, f1⟩ := z1.rules
    have Z2 := Lib.hid z2; clear z2
    go_wp2_with (at_builtin; (refine wpList_append_moved _ rfl _ _ 44 rfl (g2 + 1) 77 i0 _ 8 104 Try.underlying44 hi0 hz0 hz1 hz2 rfl (by decide) _ _ _ rfl (KT.out.1.alloc _) ⟨w5.heap.size, 0, none⟩ 1 1 (#[.int .i64 n, .string d, .int .i64 h.number, .int .i64 h.size, .string h.root, .int .i64 h.taken, .string h.takenRoot, .slice none 0 0] : Array Value).toList rfl rfl ?m1 ?m2 ?m3 ?m4 ?m5 ?_))
    case m2 => exact ⟨rfl, rfl, rfl, rfl, rfl, rfl, rfl, rfl⟩
    case m3 => unfold maxLen; omega
    case m4 => omega
    case m5 => simp; omega
    intro v' w6 hown' hfrm hmv
    obtain ⟨V2, cv2, rfl, hnc2⟩ := ownsRow_form hown'
    have KA6 := hfrm.blk (KA.out.alloc _) (fun e => by have := (L0.out _ e).1; omega)
    have KB6 := hfrm.blk (hB2.alloc _) (fun e => by have := (L0.out _ e).1; omega)
    have KZ6 := hfrm.blk (Z2.out.alloc _) (fun e => by have := (L0.out _ e).2; omega)
    have R16 := hfrm.own (KT.out.2.1.alloc _) (fun x hx e => KT.out.2.2 x e hx)
    have he6 : Ext w w6 := hfrm.toExt (he.new _) (fun x hx e => by have := (L0.out _ e).1; omega)
    have hS6 := Nat.le_trans (Nat.le_of_lt hs5) (Nat.le_trans (Nat.le_succ _) (by have := hfrm.size; simpa using this))
    have hd6 : ∀ x, (Value.slice V2 (k + 1) cv2).ownBlock = some x → (Value.slice V1 k cv1).ownBlock = some x → False := fun x h1 h2 => by
      rcases hmv x h1 with h3 | h3
      · exact KT.out.2.2 x h3 h2
      · have := (L1.out _ h2).2; omega
    have hgr7 := grow_setCells g2 [.slice V2 (k + 1) cv2] 0 w6 w6 ⟨rfl, rfl, rfl, Nat.le_refl _, fun _ _ _ => rfl⟩
    obtain ⟨w7, hw7, Y0, y1, Y2, Y3, Y4, he7, hs7⟩ : ∃ w7, w7 = w6.setCell ⟨g2, 0, none⟩ (.slice V2 (k + 1) cv2) ∧ Blk w7 g 50 #[.slice none 0 0, .slice none 0 0, .slice none 0 0, .slice none 0 0, .slice none 0 0, .slice none 0 0] ∧ Blk w7 g2 50 #[.slice V2 (k + 1) cv2, .slice V1 k cv1, .slice none 0 0, .slice none 0 0, .slice none 0 0, .slice none 0 0] ∧ Blk w7 q2 81 #[.int .i64 n, .string d, .int .i64 h.number, .int .i64 h.size, .string h.root, .int .i64 h.taken, .string h.takenRoot, .slice none 0 0, .int .i64 0, .slice none 0 0] ∧
      w7.ownsRow (g2 + 1) 77 8 (.slice V2 (k + 1) cv2) (k + 1) (((l.take (k + 1)).map (cliZ n)).flatMap CliZ.cells) ∧ w7.ownsRow (g2 + 1) 81 10 (.slice V1 k cv1) k (((l.take k).map (scnZ n)).flatMap ScnZ.cells) ∧ Ext w w7 ∧ q2 < w7.heap.size :=
      ⟨_, rfl, KA6.farCells (g' := g2) (by omega) [.slice V2 (k + 1) cv2] 0, KB6.put 0 [.slice V2 (k + 1) cv2] #[.slice V2 (k + 1) cv2, .slice V1 k cv1, .slice none 0 0, .slice none 0 0, .slice none 0 0, .slice none 0 0] (by simp) rfl, KZ6.farCells (g' := g2) (by omega) [.slice V2 (k + 1) cv2] 0,
        by
          have := ownsRow_far hown' hgr7 (by omega)
          obtain ⟨hkl, hkd⟩ := List.getElem?_eq_some_iff.1 Hdl.out
          rw [List.take_succ_eq_append_getElem hkl, hkd, List.map_append, List.flatMap_append]
          simp only [List.map_cons, List.map_nil, List.flatMap_cons, List.flatMap_nil, List.append_nil, X1.out]
          simp only [List.map_take] at this ⊢
          exact this,
        ownsRow_far R16 hgr7 (by omega), ext_setCells (W := w) (g := g2) (by omega) [.slice V2 (k + 1) cv2] 0 _ he6, by
          have := hgr7.size; have hq := KZ6.lt; exact Nat.lt_of_lt_of_le hq this⟩
    have HW := Lib.hid hw7
    obtain ⟨r6, f6⟩ := KB6.rules
    clear KA6 KZ6 R16 hown' hfrm hmv he he6 hgr7 KA KT hB2 z1 Z2 r0 f0 r1 f1 hs5 L0 L1 hw7 hS6
    go_upto_region 10 with fail
    rw [← HW.out]
    clear r6 f6 KB6 HW
    have hB7 := y1
    have Y1 := Lib.hid y1; clear y1
    replace Y0 := Lib.hid Y0; replace Y3 := Lib.hid Y3; replace Y4 := Lib.hid Y4
    have HD6 := Lib.hid hd6; clear hd6
    obtain ⟨r0, f0⟩ := hB7.rules
    obtain ⟨r1, f1⟩ := Y2.rules
    have L2 := Lib.hid Y3.out.lt
    have L3 := Lib.hid Y4.out.lt
    go_wp2_with (at_builtin; (refine wpList_append_moved _ rfl _ _ 45 rfl (g2 + 1) 81 i1 _ 10 136 Try.underlying45 hi1 hy0 hy1 hy2 rfl (by decide) _ _ _ rfl (Y4.out.alloc _) ⟨w7.heap.size, 0, none⟩ 1 1 (#[.int .i64 n, .string d, .int .i64 h.number, .int .i64 h.size, .string h.root, .int .i64 h.taken, .string h.takenRoot, .slice none 0 0, .int .i64 0, .slice none 0 0] : Array Value).toList rfl rfl ?p1 ?p2 ?p3 ?p4 ?p5 ?_))
    case p2 => exact ⟨rfl, rfl, rfl, rfl, rfl, rfl, rfl, rfl, rfl, rfl⟩
    case p3 => unfold maxLen; omega
    case p4 => omega
    case p5 => simp; omega
    intro v' w8 hown' hfrm hmv
    obtain ⟨V3, cv3, rfl, hnc3⟩ := ownsRow_form hown'
    have KA8 := hfrm.blk (Y0.out.alloc _) (fun e => by have := (L3.out _ e).1; omega)
    have KB8 := hfrm.blk (Y1.out.alloc _) (fun e => by have := (L3.out _ e).1; omega)
    have R08 := hfrm.own (Y3.out.alloc _) (fun x hx e => HD6.out x hx e)
    have he8 : Ext w w8 := hfrm.toExt (he7.new _) (fun x hx e => by have := (L3.out _ e).1; omega)
    have hd8 : ∀ x, (Value.slice V2 (k + 1) cv2).ownBlock = some x → (Value.slice V3 (k + 1) cv3).ownBlock = some x → False := fun x h1 h2 => by
      rcases hmv x h2 with h3 | h3
      · exact HD6.out x h1 h3
      · have := (L2.out _ h1).2; omega
    have hgr9 := grow_setCells g2 [.slice V3 (k + 1) cv3] 1 w8 w8 ⟨rfl, rfl, rfl, Nat.le_refl _, fun _ _ _ => rfl⟩
    obtain ⟨w9, hw9, Z0, Z1, Z3, Z4, he9⟩ : ∃ w9, w9 = w8.setCell ⟨g2, 1, none⟩ (.slice V3 (k + 1) cv3) ∧ Blk w9 g 50 #[.slice none 0 0, .slice none 0 0, .slice none 0 0, .slice none 0 0, .slice none 0 0, .slice none 0 0] ∧ Blk w9 g2 50 #[.slice V2 (k + 1) cv2, .slice V3 (k + 1) cv3, .slice none 0 0, .slice none 0 0, .slice none 0 0, .slice none 0 0] ∧
      w9.ownsRow (g2 + 1) 77 8 (.slice V2 (k + 1) cv2) (k + 1) (((l.take (k + 1)).map (cliZ n)).flatMap CliZ.cells) ∧ w9.ownsRow (g2 + 1) 81 10 (.slice V3 (k + 1) cv3) (k + 1) (((l.take (k + 1)).map (scnZ n)).flatMap ScnZ.cells) ∧ Ext w w9 :=
      ⟨_, rfl, KA8.farCells (g' := g2) (by omega) [.slice V3 (k + 1) cv3] 1, KB8.put 1 [.slice V3 (k + 1) cv3] #[.slice V2 (k + 1) cv2, .slice V3 (k + 1) cv3, .slice none 0 0, .slice none 0 0, .slice none 0 0, .slice none 0 0] (by simp) rfl, ownsRow_far R08 hgr9 (by omega),
        by
          have := ownsRow_far hown' hgr9 (by omega)
          obtain ⟨hkl, hkd⟩ := List.getElem?_eq_some_iff.1 Hdl.out
          rw [List.take_succ_eq_append_getElem hkl, hkd, List.map_append, List.flatMap_append]
          simp only [List.map_cons, List.map_nil, List.flatMap_cons, List.flatMap_nil, List.append_nil, X2.out]
          simp only [List.map_take] at this ⊢
          exact this,
        ext_setCells (W := w) (g := g2) (by omega) [.slice V3 (k + 1) cv3] 1 _ he8⟩
    have HW := Lib.hid hw9
    obtain ⟨r8, f8⟩ := KB8.rules
    clear hw9 KA8 R08 hown' hfrm hmv he7 he8 hgr9 Y0 Y1 Y2 Y3 Y4 r0 f0 r1 f1 hB7 L2 L3 HD6
    have ZZ := Lib.hid (⟨Z3, Z4, hd8⟩ : Two (g2 + 1) w9 _ _ (k + 1) _ _)
    replace Z0 := Lib.hid Z0; replace Z1 := Lib.hid Z1
    clear Z3 Z4 hd8
    go_wp2_with fail
    rw [← HW.out]
    go_roundw
    case rel => exact ⟨k + 1, _, _, by omega, by go_num, ZZ.out, Z0.out, Z1.out, he9⟩
    case measure => simp [intOf]; omega
end Go.Proofs.Ytkcjhfidgnbdiaa
