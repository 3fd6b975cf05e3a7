/-
  Draw2: No condition.
-/
import Derived.Test.YtgeengkdgdjcjaaDraw
import Derived.Test.YtgeengkdgdjcjaaPadOf
namespace Go.Proofs.Ytgeengkdgdjcjaa
set_option maxHeartbeats 2000000
set_option maxRecDepth 100000
set_option linter.unusedSimpArgs false
open Go.RowKit
set_option linter.unusedVariables false
theorem ExtBut.ownGrown {W w w' : World} {g K e size n : Nat} {v : Value} {xs : List Value} (he : ExtBut g W w) (hK : W.heap.size ≤ K) (hown : w.ownsRow K e size v n xs) (hg : w.grownBy w' v.ownBlock) : ExtBut g W w' :=
 ⟨hg.os.trans he.os, hg.tape.trans he.tape, hg.output.trans he.output, Nat.le_trans he.size hg.size, fun k hk hne =>
  (hg.block k (Nat.lt_of_lt_of_le hk he.size) (fun x => by have := (hown.lt k x.symm).1; omega)).trans (he.block k hk hne)⟩
theorem ExtBut.alloc {W w : World} {g : Nat} (he : ExtBut g W w) (o : Obj) : ExtBut g W (w.alloc o) :=
 he.next (World.grownBy_alloc w o _)
theorem CurAt.below {w w' : World} {B g K : Nat} {A : Option Addr} {c : Nat} {l : List Int} (h : CurAt w B g A c l) (hg : g < K) (hb : Below K w w') : CurAt w' B g A c l := by
 obtain ⟨h1, h2, h3, h4, i, x, h5, hi⟩ := h
 exact ⟨h1, h2, h3, h4.below (hb.mono (by omega)), i, x, (hb.block g hg).trans h5, hi⟩
theorem CurAt.ownGrown {w w' : World} {B g K e size n : Nat} {v : Value} {xs : List Value} {A : Option Addr} {c : Nat} {l : List Int} (h : CurAt w B g A c l) (hg : g < K) (hK : K ≤ w.heap.size) (hown : w.ownsRow K e size v n xs) (hw : w.grownBy w' v.ownBlock) : CurAt w' B g A c l :=
 h.below hg (Below.grown (Below.refl K w) hw hK (fun k hk => (hown.lt k hk).1))
theorem CurAt.alloc {w : World} {B g : Nat} {A : Option Addr} {c : Nat} {l : List Int} (h : CurAt w B g A c l) (o : Obj) : CurAt (w.alloc o) B g A c l :=
 h.ext (Ext.new (Below.refl _ _) o)
theorem below_setCells {B p : Nat} {W : World} (hp : B ≤ p) : ∀ (vs : List Value) (o : Nat) (w : World), Below B W w → Below B W (w.setCells p o vs)
 | [], _, _, h => h
 | v :: vs, o, w, h => below_setCells hp vs (o + 1) _ (Below.setCell h (p := ⟨p, o, none⟩) hp v)
theorem CurAt.far {w : World} {B g p : Nat} {A : Option Addr} {c : Nat} {l : List Int} (h : CurAt w B g A c l) (hp : B ≤ p) (hne : g ≠ p) (vs : List Value) (o : Nat) : CurAt (w.setCells p o vs) B g A c l := by
 obtain ⟨h1, h2, h3, h4, i, x, h5, hi⟩ := h
 exact ⟨h1, h2, h3, h4.below (below_setCells hp vs o w (Below.refl _ _)), i, x, h5.farCells hne vs o w, hi⟩
theorem ownsRow_but {w w' : World} {K g e size n : Nat} {v : Value} {xs : List Value} (h : w.ownsRow K e size v n xs) (k : ExtBut g w w') (hg : g < K) : w'.ownsRow K e size v n xs := by
 refine ⟨h.1, ?_⟩
 rcases h.2 with h1 | ⟨b, cap, cur, hv, hb, hh, hrest⟩
 · exact .inl h1
 · exact .inr ⟨b, cap, cur, hv, hb, (k.block b (Blk.lt (t := e) (cs := cur) hh) (by simp; omega)).trans hh, hrest⟩
theorem string0 (w : World) (a : Addr) (cap : Nat) : (convert 22 9 (.slice (some a) 0 cap)).run Try.prog w = .ok (.string (ofInts [])) w :=
 run_convert_bytes_back (P := Try.prog) w 22 9 5 a cap [] Try.underlying22 Try.underlying5 Try.underlying9 (fun j hj => by simp at hj)
theorem l01Text_any (B g : Nat) (A : Option Addr) (c : Nat) (l : List Int) (n : Nat) (w : World) (hn : n ≤ 5000) (hC : CurAt w B g A c l) :
 Calls Try.prog 46 #[.pointer (some ⟨g, 0, none⟩), .int .i64 (n : Int)] w fun e w' => ∃ s : ByteArray, s.size = n ∧ e = .returned (.string s) ∧ CurAt w' B g A c l ∧ ExtBut g w w' := by
 obtain ⟨i0, hi, hz0, hz1, hz2⟩ := info_parts info_u8
 have hd0 : decide ((n : Int) > 5000) = false := by rw [decide_eq_false_iff_not]; omega
 go_enter Try.func46, Try.ntmps46
 go_wp2_with fail
 have H0 := hU (show (w.alloc (.cells #[] 5)).ownsRow w.heap.size 5 1 (.slice (some ⟨w.heap.size, 0, none⟩) 0 0) 0 (bvals []) from World.ownsRow_made w #[] 0 (Nat.le_refl _) (by decide) rfl)
 have H1 := hU (hC.alloc (.cells #[] 5))
 have HE := hU ((ExtBut.refl g w).alloc (.cells #[] 5))
 have hg := hC.lt
 clear hC
 obtain ⟨K, hK⟩ : ∃ K, K = w.heap.size := ⟨_, rfl⟩
 have HK := hU hK
 rw [← hK] at H0 hg
 rw [← hK]
 clear hK
 go_loopw [5, 6] (fun v x wr => ∃ (k : Nat) (xs : List Int), k ≤ n ∧ xs.length = k ∧ x = .int .i64 (k : Int) ∧ (∀ y ∈ xs, 0 ≤ y ∧ y < 256) ∧ wr.ownsRow K 5 1 v k (bvals xs) ∧ (k = 0 → ∃ a, v = .slice (some a) 0 0) ∧ CurAt wr B g A c l ∧ ExtBut g w wr) (fun _ x _ => n - (intOf x).toNat)
 case atStart => exact ⟨0, [], Nat.zero_le _, rfl, rfl, by simp, H0.out, fun _ => ⟨_, rfl⟩, H1.out, HE.out⟩
 case round =>
  clear H0 H1 HE
  obtain ⟨k, xs, hk, hxl, rfl, hxb, hown, hz, hcur, he⟩ := hrel
  obtain ⟨A', c', rfl, hnc'⟩ := ownsRow_form hown
  by_cases hlt : k < n
  · have hd : decide ((k : Int) < (n : Int)) = true := by rw [decide_eq_true_iff]; omega
    clear hz
    have KO := hU hown
    clear hown
    go_wp2_with fail
    refine (l01Byte_any B g A c l _ hcur).mono ?_
    rintro e w1 ⟨y, ⟨hy0, hy1⟩, rfl, h1, k1⟩
    have KO1 := hU (ownsRow_but KO.out k1 hg)
    have he1 := hU (he.next k1)
    have HC1 := hU h1
    have Hn := hU (bvals_snoc xs y)
    have Hb := hU (show ∀ z ∈ xs ++ [y], 0 ≤ z ∧ z < 256 by
     intro z hz
     rcases List.mem_append.1 hz with h | h
     · exact hxb z h
     · obtain rfl := List.mem_singleton.1 h; omega)
    have hw : IntKind.u8.wrap y = y := wraps_u8 y hy0 (by omega)
    have hk5 : k ≤ 5000 := by omega
    clear KO he h1 k1 hcur hxb
    go_wp2_with (at_builtin; refine wpList_append_own _ rfl _ _ 22 rfl K 5 i0 (.int .u8 0) 1 1 Try.underlying22 hi hz0 hz1 hz2 rfl (by decide) _ _ _ rfl (KO1.out.alloc _) ⟨w1.heap.size, 0, none⟩ 1 1 [.int .u8 y] rfl rfl ?c1 ?c2 ?c3 ?c4 ?c5 ?_)
    case c1 => exact one_at _ _ _
    case c2 => exact one_cell rfl
    case c3 => unfold maxLen; omega
    case c4 => omega
    case c5 => have := he1.out.size; have := HK.out; simp; omega
    intro v' w2 hown' hgrow _
    have hK1 : K ≤ (w1.alloc (.cells #[.int .u8 y] 5)).heap.size := by have := he1.out.size; have := HK.out; simp; omega
    have he2 := (he1.out.alloc (.cells #[.int .u8 y] 5)).ownGrown (by have := HK.out; omega) (KO1.out.alloc _) hgrow
    have hc2 := (HC1.out.alloc (.cells #[.int .u8 y] 5)).ownGrown hg hK1 (KO1.out.alloc _) hgrow
    rw [Hn.out] at hown'
    obtain ⟨A'', c'', rfl, _⟩ := ownsRow_form hown'
    have KO' := hU hown'
    clear hown' hgrow KO1 he1 HC1
    go_wp2_with fail
    go_roundw
    case rel => exact ⟨k + 1, xs ++ [y], by omega, by simp [hxl], rfl, Hb.out, KO'.out, fun h => absurd h (by omega), hc2, he2⟩
    case measure => simp [intOf]; omega
  · have hd : decide ((k : Int) < (n : Int)) = false := by rw [decide_eq_false_iff_not]; omega
    have hkn : k = n := by omega
    subst hkn
    have hconv : (convert 22 9 (.slice A' k c')).run Try.prog wr = .ok (.string (ofInts xs)) wr := by
     rcases Nat.eq_zero_or_pos k with h0 | h0
     · obtain ⟨a, ha⟩ := hz h0
       subst h0
       obtain rfl := List.eq_nil_of_length_eq_zero hxl
       obtain ⟨rfl, _, rfl⟩ : A' = some a ∧ 0 = 0 ∧ c' = 0 := by simpa using ha
       exact string0 _ _ _
     · exact own_string hxl.symm hown h0 hxb
    have hsz : (ofInts xs).size = k := by rw [← hxl]; simp [ofInts, ByteArray.size]
    clear hown hz hxb hxl
    generalize ofInts xs = s at *
    go_wp2_with fail
    go_ret
    exact ⟨s, hsz, rfl, hcur, he⟩
end Go.Proofs.Ytgeengkdgdjcjaa
