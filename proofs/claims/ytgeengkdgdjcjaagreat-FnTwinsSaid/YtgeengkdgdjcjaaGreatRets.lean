/-
  Draw2; Draw3; Rets: No condition.
-/
import Derived.Test.YtgeengkdgdjcjaaGreatDraw
import Derived.Test.YtgeengkdgdjcjaaGreatPadOf
import Derived.Test.YtgeengkdgdjcjaaGreatTexts
import Derived.Deep.RegionHeld3
import Derived.Test.YtgeengkdgdjcjaaGreatMem
namespace Go.Proofs.YtgeengkdgdjcjaaGreat
set_option maxHeartbeats 2000000
set_option maxRecDepth 100000
set_option linter.unusedSimpArgs false
open Go.RowKit
set_option linter.unusedVariables false
theorem ExtBut.ownGrown {W w w' : World} {g K e size n : Nat} {v : Value} {xs : List Value} (he : ExtBut g W w) (hK : W.heap.size ≤ K) (hown : w.ownsRow K e size v n xs) (hg : w.grownBy w' v.ownBlock) : ExtBut g W w' :=
 ⟨hg.os.trans he.os, hg.tape.trans he.tape, hg.output.trans he.output, Nat.le_trans he.size hg.size, fun k hk hne =>
  (hg.block k (Nat.lt_of_lt_of_le hk he.size) (fun x => by have := (hown.lt k x.symm).1; omega)).trans (he.block k hk hne)⟩
theorem ExtBut.alloc {W w : World} {g : Nat} (he : ExtBut g W w) (o : Obj) : ExtBut g W (w.alloc o) :=
 he.next (World.grownBy_alloc w o _)
theorem CurAt.below {w w' : World} {B g K : Nat} {A : Option Addr} {c : Nat} {l : List Int} (h : CurAt w B g A c l) (hg : g < K) (hb : Below K w w') : CurAt w' B g A c l := by
 obtain ⟨h1, h2, h3, h4, i, x, h5, hi⟩ := h
 exact ⟨h1, h2, h3, h4.below (hb.mono (by omega)), i, x, (hb.block g hg).trans h5, hi⟩
theorem CurAt.ownGrown {w w' : World} {B g K e size n : Nat} {v : Value} {xs : List Value} {A : Option Addr} {c : Nat} {l : List Int} (h : CurAt w B g A c l) (hg : g < K) (hK : K ≤ w.heap.size) (hown : w.ownsRow K e size v n xs) (hw : w.grownBy w' v.ownBlock) : CurAt w' B g A c l :=
 h.below hg (Below.grown (Below.refl K w) hw hK (fun k hk => (hown.lt k hk).1))
theorem CurAt.alloc {w : World} {B g : Nat} {A : Option Addr} {c : Nat} {l : List Int} (h : CurAt w B g A c l) (o : Obj) : CurAt (w.alloc o) B g A c l :=
 h.ext (Ext.new (Below.refl _ _) o)
theorem below_setCells {B p : Nat} {W : World} (hp : B ≤ p) : ∀ (vs : List Value) (o : Nat) (w : World), Below B W w → Below B W (w.setCells p o vs)
 | [], _, _, h => h
 | v :: vs, o, w, h => below_setCells hp vs (o + 1) _ (Below.setCell h (p := ⟨p, o, none⟩) hp v)
theorem CurAt.far {w : World} {B g p : Nat} {A : Option Addr} {c : Nat} {l : List Int} (h : CurAt w B g A c l) (hp : B ≤ p) (hne : g ≠ p) (vs : List Value) (o : Nat) : CurAt (w.setCells p o vs) B g A c l := by
 obtain ⟨h1, h2, h3, h4, i, x, h5, hi⟩ := h
 exact ⟨h1, h2, h3, h4.below (below_setCells hp vs o w (Below.refl _ _)), i, x, h5.farCells hne vs o w, hi⟩
theorem ownsRow_but {w w' : World} {K g e size n : Nat} {v : Value} {xs : List Value} (h : w.ownsRow K e size v n xs) (k : ExtBut g w w') (hg : g < K) : w'.ownsRow K e size v n xs := by
 refine ⟨h.1, ?_⟩
 rcases h.2 with h1 | ⟨b, cap, cur, hv, hb, hh, hrest⟩
 · exact .inl h1
 · exact .inr ⟨b, cap, cur, hv, hb, (k.block b (Blk.lt (t := e) (cs := cur) hh) (by simp; omega)).trans hh, hrest⟩
theorem string0 (w : World) (a : Addr) (cap : Nat) : (convert 22 9 (.slice (some a) 0 cap)).run Tryz.prog w = .ok (.string (ofInts [])) w :=
 run_convert_bytes_back (P := Tryz.prog) w 22 9 5 a cap [] Tryz.underlying22 Tryz.underlying5 Tryz.underlying9 (fun j hj => by simp at hj)
theorem l01Text_any (B g : Nat) (A : Option Addr) (c : Nat) (l : List Int) (n : Nat) (w : World) (hn : n ≤ 5000) (hC : CurAt w B g A c l) :
 Calls Tryz.prog 51 #[.pointer (some ⟨g, 0, none⟩), .int .i64 (n : Int)] w fun e w' => ∃ s : ByteArray, s.size = n ∧ e = .returned (.string s) ∧ CurAt w' B g A c l ∧ ExtBut g w w' := by
 obtain ⟨i0, hi, hz0, hz1, hz2⟩ := info_parts info_u8
 have hd0 : decide ((n : Int) > 5000) = false := by rw [decide_eq_false_iff_not]; omega
 go_enter Tryz.func51, Tryz.ntmps51
 go_wp2_with fail
 have H0 := hU (show (w.alloc (.cells #[] 5)).ownsRow w.heap.size 5 1 (.slice (some ⟨w.heap.size, 0, none⟩) 0 0) 0 (bvals []) from World.ownsRow_made w #[] 0 (Nat.le_refl _) (by decide) rfl)
 have H1 := hU (hC.alloc (.cells #[] 5))
 have HE := hU ((ExtBut.refl g w).alloc (.cells #[] 5))
 have hg := hC.lt
 clear hC
 obtain ⟨K, hK⟩ : ∃ K, K = w.heap.size := ⟨_, rfl⟩
 have HK := hU hK
 rw [← hK] at H0 hg
 rw [← hK]
 clear hK
 go_loopw [5, 6] (fun v x wr => ∃ (k : Nat) (xs : List Int), k ≤ n ∧ xs.length = k ∧ x = .int .i64 (k : Int) ∧ (∀ y ∈ xs, 0 ≤ y ∧ y < 256) ∧ wr.ownsRow K 5 1 v k (bvals xs) ∧ (k = 0 → ∃ a, v = .slice (some a) 0 0) ∧ CurAt wr B g A c l ∧ ExtBut g w wr) (fun _ x _ => n - (intOf x).toNat)
 case atStart => exact ⟨0, [], Nat.zero_le _, rfl, rfl, by simp, H0.out, fun _ => ⟨_, rfl⟩, H1.out, HE.out⟩
 case round =>
  clear H0 H1 HE
  obtain ⟨k, xs, hk, hxl, rfl, hxb, hown, hz, hcur, he⟩ := hrel
  obtain ⟨A', c', rfl, hnc'⟩ := ownsRow_form hown
  by_cases hlt : k < n
  · have hd : decide ((k : Int) < (n : Int)) = true := by rw [decide_eq_true_iff]; omega
    clear hz
    have KO := hU hown
    clear hown
    go_wp2_with fail
    refine (l01Byte_any B g A c l _ hcur).mono ?_
    rintro e w1 ⟨y, ⟨hy0, hy1⟩, rfl, h1, k1⟩
    have KO1 := hU (ownsRow_but KO.out k1 hg)
    have he1 := hU (he.next k1)
    have HC1 := hU h1
    have Hn := hU (bvals_snoc xs y)
    have Hb := hU (show ∀ z ∈ xs ++ [y], 0 ≤ z ∧ z < 256 by
     intro z hz
     rcases List.mem_append.1 hz with h | h
     · exact hxb z h
     · obtain rfl := List.mem_singleton.1 h; omega)
    have hw : IntKind.u8.wrap y = y := wraps_u8 y hy0 (by omega)
    have hk5 : k ≤ 5000 := by omega
    clear KO he h1 k1 hcur hxb
    go_wp2_with (at_builtin; refine wpList_append_own _ rfl _ _ 22 rfl K 5 i0 (.int .u8 0) 1 1 Tryz.underlying22 hi hz0 hz1 hz2 rfl (by decide) _ _ _ rfl (KO1.out.alloc _) ⟨w1.heap.size, 0, none⟩ 1 1 [.int .u8 y] rfl rfl ?c1 ?c2 ?c3 ?c4 ?c5 ?_)
    case c1 => exact one_at _ _ _
    case c2 => exact one_cell rfl
    case c3 => unfold maxLen; omega
    case c4 => omega
    case c5 => have := he1.out.size; have := HK.out; simp; omega
    intro v' w2 hown' hgrow _
    have hK1 : K ≤ (w1.alloc (.cells #[.int .u8 y] 5)).heap.size := by have := he1.out.size; have := HK.out; simp; omega
    have he2 := (he1.out.alloc (.cells #[.int .u8 y] 5)).ownGrown (by have := HK.out; omega) (KO1.out.alloc _) hgrow
    have hc2 := (HC1.out.alloc (.cells #[.int .u8 y] 5)).ownGrown hg hK1 (KO1.out.alloc _) hgrow
    rw [Hn.out] at hown'
    obtain ⟨A'', c'', rfl, _⟩ := ownsRow_form hown'
    have KO' := hU hown'
    clear hown' hgrow KO1 he1 HC1
    go_wp2_with fail
    go_roundw
    case rel => exact ⟨k + 1, xs ++ [y], by omega, by simp [hxl], rfl, Hb.out, KO'.out, fun h => absurd h (by omega), hc2, he2⟩
    case measure => simp [intOf]; omega
  · have hd : decide ((k : Int) < (n : Int)) = false := by rw [decide_eq_false_iff_not]; omega
    have hkn : k = n := by omega
    subst hkn
    have hconv : (convert 22 9 (.slice A' k c')).run Tryz.prog wr = .ok (.string (ofInts xs)) wr := by
     rcases Nat.eq_zero_or_pos k with h0 | h0
     · obtain ⟨a, ha⟩ := hz h0
       subst h0
       obtain rfl := List.eq_nil_of_length_eq_zero hxl
       obtain ⟨rfl, _, rfl⟩ : A' = some a ∧ 0 = 0 ∧ c' = 0 := by simpa using ha
       exact string0 _ _ _
     · exact own_string hxl.symm hown h0 hxb
    have hsz : (ofInts xs).size = k := by rw [← hxl]; simp [ofInts, ByteArray.size]
    clear hown hz hxb hxl
    generalize ofInts xs = s at *
    go_wp2_with fail
    go_ret
    exact ⟨s, hsz, rfl, hcur, he⟩
theorem l01Pick_any (B g p : Nat) (A : Option Addr) (c cp : Nat) (l : List Int) (ts : List ByteArray) (w : World) (hpos : 0 < ts.length) (hts : ts.length ≤ 256) (hpg : p ≠ g) (hp : Blk w p 9 (ts.map Value.string).toArray) (hC : CurAt w B g A c l) :
 Calls Tryz.prog 68 #[.pointer (some ⟨g, 0, none⟩), .slice (some ⟨p, 0, none⟩) ts.length cp] w fun e w' => ∃ t ∈ ts, e = .returned (.string t) ∧ CurAt w' B g A c l ∧ ExtBut g w w' := by
 go_enter Tryz.func68, Tryz.ntmps68
 go_wp2_with fail
 refine (l01Below_any B g A c l _ _ (by omega) (by omega) hC).mono ?_
 rintro e w1 ⟨x, ⟨hx0, hx1⟩, rfl, h1, k1⟩
 obtain ⟨k, rfl⟩ : ∃ k : Nat, x = (k : Int) := ⟨x.toNat, by omega⟩
 have hk : k < ts.length := by omega
 have hp1 := hp.extBut k1 hpg
 have c0 : w1.cell? ⟨p, k, none⟩ = some (.string ts[k]) := by rw [hp1.cell]; simp [hk]
 have c1 : w1.cell? ⟨p, 0 + k * 1, none⟩ = some (.string ts[k]) := by rw [Nat.mul_one, Nat.zero_add]; exact c0
 have hm := List.getElem_mem hk
 have hw : IntKind.i64.wrap (k : Int) = (k : Int) := IntWalk.i64_in _ (by omega)
 clear hp1 hp
 generalize ts[k] = t at *
 go_wp2_with fail
 go_ret
 exact ⟨t, hm, rfl, h1, k1⟩
theorem l01Once_any (B g : Nat) (A : Option Addr) (c : Nat) (l : List Int) (n : Int) (w : World) (hn0 : 0 < n) (hn1 : n ≤ 1099511627776) (hC : CurAt w B g A c l) :
 Calls Tryz.prog 49 #[.pointer (some ⟨g, 0, none⟩), .int .i64 n] w fun e w' => ∃ b, e = .returned (.bool b) ∧ CurAt w' B g A c l ∧ ExtBut g w w' := by
 go_enter Tryz.func49, Tryz.ntmps49
 go_wp2_with fail
 refine (l01Below_any B g A c l _ _ hn0 hn1 hC).mono ?_
 rintro e w1 ⟨x, ⟨hx0, hx1⟩, rfl, h1, k1⟩
 go_wp2_with fail
 go_ret
 exact ⟨_, rfl, h1, k1⟩
def topics : List ByteArray := [⟨#[110, 101, 119, 115]⟩, ⟨#[112, 97, 121, 45, 55]⟩, ⟨#[97]⟩]
theorem l09Topic_any (B g : Nat) (A : Option Addr) (c : Nat) (l : List Int) (w : World) (hC : CurAt w B g A c l) :
 Calls Tryz.prog 67 #[.pointer (some ⟨g, 0, none⟩)] w fun e w' => ∃ t ∈ topics, e = .returned (.string t) ∧ CurAt w' B g A c l ∧ ExtBut g w w' := by
 go_enter Tryz.func67, Tryz.ntmps67
 go_wp2_with fail
 refine (l01Pick_any B g w.heap.size A c _ l topics _ (by decide) (by decide) (by have := hC.lt; omega) (Blk.new _ _ _) (hC.alloc _)).mono ?_
 rintro e w1 ⟨t, ht, rfl, h1, k1⟩
 go_wp2_with fail
 go_ret
 exact ⟨t, ht, rfl, h1, (ExtBut.alloc (ExtBut.refl _ _) _).next k1⟩
theorem wp_store_here {P : Program} {op : Oper} {a : Act} {w : World} {K : Act → World → Prop} {Q : Exit → Act → World → Prop} (ty : TypeId) (x y : Operand) (ho : op.op = .store ty x y) (hd : op.dst = none)
 (b o : Nat) (cells : List Value) (hx : a.eval x = .pointer (some ⟨b, o, none⟩)) (hy : a.eval y = .agg cells.toArray)
 (ht : w.there b o cells.length) (hi : (P.info? ty).map (·.size) = some cells.length) (h1 : ∀ v ∈ cells, v.oneCell' = true)
 (h : K a (w.setCells b o cells)) : op.wp P a w K Q := wp_store_mid ty x y ho b o cells.toArray hx hy (by simpa using ht) (by simpa using hi) (all_oneCell_toArray h1) (by rw [hd]; exact h)
theorem ret_ctt {P : Program} {fn : Func} {R : Ending → World → Prop} {a : Act} {w : World} {s0 s1 s2 : Tmp} {ty0 g0 t0 : Nat} {cs0 : Array Value} {d0 : TypeDesc} (h : fn.results = #[.cell s0 ty0, .tmp s1, .tmp s2])
 (hp0 : a.tmps.getD s0 undef = .pointer (some ⟨g0, 0, none⟩)) (hB0 : Blk w g0 t0 cs0) (hu0 : P.underlying ty0 = some d0) (hd0 : (match d0 with | .struct _ | .array _ _ => true | _ => false) = true) (hi0 : (P.info? ty0).map (·.size) = some cs0.size)
 (hdef : a.defers = []) (hR : R (.returned (.tuple #[.agg cs0, a.tmps.getD s1 undef, a.tmps.getD s2 undef])) w) : bodyPost P fn R .ret a w := by
 refine bodyPost_ret (v := .tuple #[.agg cs0, a.tmps.getD s1 undef, a.tmps.getD s2 undef]) ?_ hdef hR
 have h0 := run_loadVar_row w g0 t0 ty0 cs0 (0, 0) d0 hB0 hu0 hd0 hi0
 simp only [results, h]
 rw [show (#[ResultVar.cell s0 ty0, ResultVar.tmp s1, ResultVar.tmp s2] : Array ResultVar) = #[.cell s0 ty0, .tmp s1, .tmp s2] from rfl]
 simp [Sem.run_bind, Result.andThen]
 have hp0' : a.tmps[s0]?.getD undef = .pointer (some ⟨g0, 0, none⟩) := by rw [← hp0]; simp
 rw [hp0']
 simp [asAddr, Sem.run_pure, Result.andThen, h0]
theorem ret_tttc {P : Program} {fn : Func} {R : Ending → World → Prop} {a : Act} {w : World} {s0 s1 s2 s3 : Tmp} {ty3 g3 t3 : Nat} {cs3 : Array Value} {d3 : TypeDesc} (h : fn.results = #[.tmp s0, .tmp s1, .tmp s2, .cell s3 ty3])
 (hp3 : a.tmps.getD s3 undef = .pointer (some ⟨g3, 0, none⟩)) (hB3 : Blk w g3 t3 cs3) (hu3 : P.underlying ty3 = some d3) (hd3 : (match d3 with | .struct _ | .array _ _ => true | _ => false) = true) (hi3 : (P.info? ty3).map (·.size) = some cs3.size)
 (hdef : a.defers = []) (hR : R (.returned (.tuple #[a.tmps.getD s0 undef, a.tmps.getD s1 undef, a.tmps.getD s2 undef, .agg cs3])) w) : bodyPost P fn R .ret a w := by
 refine bodyPost_ret (v := .tuple #[a.tmps.getD s0 undef, a.tmps.getD s1 undef, a.tmps.getD s2 undef, .agg cs3]) ?_ hdef hR
 have h3 := run_loadVar_row w g3 t3 ty3 cs3 (0, 0) d3 hB3 hu3 hd3 hi3
 simp only [results, h]
 rw [show (#[ResultVar.tmp s0, ResultVar.tmp s1, ResultVar.tmp s2, ResultVar.cell s3 ty3] : Array ResultVar) = #[.tmp s0, .tmp s1, .tmp s2, .cell s3 ty3] from rfl]
 simp [Sem.run_bind, Result.andThen]
 have hp3' : a.tmps[s3]?.getD undef = .pointer (some ⟨g3, 0, none⟩) := by rw [← hp3]; simp
 rw [hp3']
 simp [asAddr, Sem.run_pure, Result.andThen, h3]
end Go.Proofs.YtgeengkdgdjcjaaGreat
