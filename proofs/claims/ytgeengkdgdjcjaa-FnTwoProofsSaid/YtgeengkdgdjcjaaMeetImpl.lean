/-
  MeetImpl: No condition.
-/
import Derived.Test.YtgeengkdgdjcjaaMeetOps
import Derived.Test.YtgeengkdgdjcjaaMeetEnd
import Derived.Test.YtgeengkdgdjcjaaMapStr
namespace Go.Proofs.Ytgeengkdgdjcjaa
set_option maxHeartbeats 4000000
set_option maxRecDepth 100000
set_option linter.unusedSimpArgs false
open Go.RowKit
set_option linter.unusedVariables false
theorem pre_at {l : List PreD} {w : World} {b off : Nat} {k : Nat} {d : PreD} (hc : ∀ j u, (l.flatMap PreD.cells)[k * 2 + j]? = some u → w.cell? ⟨b, off + k * 2 + j, none⟩ = some u) (hd : l[k]? = some d) :
 w.cell? ⟨b, off + k * 2, none⟩ = some (.int .i64 d.tag) ∧ w.cell? ⟨b, off + k * 2 + 1, none⟩ = some (.string d.text) :=
 ⟨hc 0 _ (flat_at _ 2 PreD.cells_length l k 0 d hd (by omega)), hc 1 _ (flat_at _ 2 PreD.cells_length l k 1 d hd (by omega))⟩
theorem digest_le (n tag : Int) (T : ByteArray) : (digest n tag T).size ≤ 32 := by
 cases b : digestOk n tag T
 · rw [digest_no b]; decide
 · rw [digest_size b]
   have : inR n 1 32 = true := by simp only [digestOk, Bool.and_eq_true] at b; exact b.1.1
   have := inR_true this
   omega
theorem two_pre_ret {fn : Func} {R : Ending → World → Prop} {a : Act} {W wr : World} {p q u : Tmp} {g : Nat} {cs cs' : Array Value} (hg0 : W.heap.size ≤ g) (K0 : Blk wr g 39 cs) (K1 : Blk wr (g + 1) 39 cs') (he : Ext W wr) (x y : PreD) (ok : Bool)
 (h0 : cs.size = 2) (h1 : cs'.size = 2) (h : fn.results = #[.cell p 39, .cell q 39, .tmp u]) (hp : a.tmps.getD p undef = .pointer (some ⟨g, 0, none⟩)) (hq : a.tmps.getD q undef = .pointer (some ⟨g + 1, 0, none⟩)) (hu : a.tmps.getD u undef = .bool ok)
 (hdef : a.defers = [] := by rfl) (hR : ∀ w', Ext W w' → R (.returned (.tuple #[.agg #[.int .i64 x.tag, .string x.text], .agg #[.int .i64 y.tag, .string y.text], .bool ok])) w' := by exact fun w' h => ⟨rfl, h⟩) :
 bodyPost Try.prog fn R .ret a ((wr.setCells g 0 [.int .i64 x.tag, .string x.text]).setCells (g + 1) 0 [.int .i64 y.tag, .string y.text]) := by
 have D0 := (K0.put 0 [.int .i64 x.tag, .string x.text] #[.int .i64 x.tag, .string x.text] (by simp [h0]) (by simp; omega)).farCells (g' := g + 1) (by omega) [.int .i64 y.tag, .string y.text] 0
 have D1 := (K1.farCells (g' := g) (by omega) [.int .i64 x.tag, .string x.text] 0).put 0 [.int .i64 y.tag, .string y.text] #[.int .i64 y.tag, .string y.text] (by simp [h1]) (by simp; omega)
 have he2 := ext_setCells (W := W) (g := g + 1) (by omega) [.int .i64 y.tag, .string y.text] 0 _ (ext_setCells (W := W) hg0 [.int .i64 x.tag, .string x.text] 0 wr he)
 exact ret_rows_tmp h hp hq D0 D1 Try.underlying39 rfl (by kernel_rfl) (by kernel_rfl) hdef (by rw [hu]; exact hR _ he2)
theorem two_pre_retd {fn : Func} {R : Ending → World → Prop} {a : Act} {W wr : World} {p q u : Tmp} {g : Nat} {cs cs' : Array Value} (hg0 : W.heap.size ≤ g) (K0 : Blk wr g 39 cs) (K1 : Blk wr (g + 1) 39 cs') (he : Ext W wr) (x y : PreD) (ok : Bool)
 (h0 : cs.size = 2) (h1 : cs'.size = 2) (h : fn.results = #[.cell p 39, .cell q 39, .tmp u]) (hp : a.tmps.getD p undef = .pointer (some ⟨g, 0, none⟩)) (hq : a.tmps.getD q undef = .pointer (some ⟨g + 1, 0, none⟩)) (hu : a.tmps.getD u undef = .bool ok)
 (hdef : a.defers = [] := by rfl) (hR : ∀ w', Ext W w' → R (.returned (.tuple #[.agg #[.int .i64 x.tag, .string x.text], .agg #[.int .i64 y.tag, .string y.text], .bool ok])) w' := by exact fun w' h => ⟨rfl, h⟩) :
 bodyPost Try.prog fn R .ret a ((wr.setCells g 0 [.int .i64 x.tag, .string x.text]).setCells (g + 1) 0 [.int .i64 y.tag, .string y.text]).drew := by
 have D0 := (K0.put 0 [.int .i64 x.tag, .string x.text] #[.int .i64 x.tag, .string x.text] (by simp [h0]) (by simp; omega)).farCells (g' := g + 1) (by omega) [.int .i64 y.tag, .string y.text] 0
 have D1 := (K1.farCells (g' := g) (by omega) [.int .i64 x.tag, .string x.text] 0).put 0 [.int .i64 y.tag, .string y.text] #[.int .i64 y.tag, .string y.text] (by simp [h1]) (by simp; omega)
 have he2 := ext_setCells (W := W) (g := g + 1) (by omega) [.int .i64 y.tag, .string y.text] 0 _ (ext_setCells (W := W) hg0 [.int .i64 x.tag, .string x.text] 0 wr he)
 exact ret_rows_tmp h hp hq D0.drew D1.drew Try.underlying39 rfl (by kernel_rfl) (by kernel_rfl) hdef (by rw [hu]; exact hR _ he2.drew)
theorem implMeet_any (n : Int) (A : Option Addr) (c : Nat) (l : List PreD) (w : World) (hr : ReadsL w w.heap.size PreD.cells 2 A l) (hok : ∀ d ∈ l, d.Ok) (hl : l.length ≤ 1048576) :
 Calls Try.prog 13 #[.int .i64 n, .slice A l.length c] w fun e w' => e = .returned (.tuple #[.agg #[.int .i64 (meetA n l).tag, .string (meetA n l).text], .agg #[.int .i64 (meetB n l).tag, .string (meetB n l).text], .bool (meetOk n l)]) ∧ Ext w w' := by
 have Hok := hU hok; clear hok
 obtain ⟨X, hX⟩ : ∃ X, X = meetA n l := ⟨_, rfl⟩
 obtain ⟨Y, hY⟩ : ∃ Y, Y = meetB n l := ⟨_, rfl⟩
 obtain ⟨ok, hok⟩ : ∃ ok, ok = meetOk n l := ⟨_, rfl⟩
 have Hz : Hid (meet n l = none → X = pz ∧ Y = pz ∧ ok = false) := hU (fun h => by rw [hX, hY, hok]; exact meet_zero h)
 have Hv : Hid (∀ (i k : Nat) (a b : PreD), meet n l = some (i, k) → l[i]? = some a → l[k]? = some b → X = a ∧ Y = b ∧ ok = true) := hU (fun i k a b h ha hb => by rw [hX, hY, hok]; exact meet_vals h ha hb)
 rw [← hX, ← hY, ← hok]
 clear hX hY hok
 have K0 := hU ((Blk.new w 39 #[.int .i64 0, .string ⟨#[]⟩]).alloc (.cells #[.int .i64 0, .string ⟨#[]⟩] 39))
 have k1 := Blk.new (w.alloc (.cells #[.int .i64 0, .string ⟨#[]⟩] 39)) 39 #[.int .i64 0, .string ⟨#[]⟩]
 simp only [World.size_alloc] at k1
 have K1 := hU k1
 clear k1
 have He := hU (Ext.new (Ext.new (Below.refl w.heap.size w) (.cells #[.int .i64 0, .string ⟨#[]⟩] 39)) (.cells #[.int .i64 0, .string ⟨#[]⟩] 39))
 cases b1 : inR n 1 32
 · obtain ⟨rfl, rfl, rfl⟩ := Hz.out (meet_wide b1)
   go_enter Try.func13, Try.ntmps13
   go_wp2_with (go_at_call 26; refine (isWidth_any _ _).mono ?_; rintro e w' ⟨rfl, rfl⟩)
   exact ret_rows_tmp rfl rfl rfl K0.out K1.out Try.underlying39 rfl (by kernel_rfl) (by kernel_rfl) rfl ⟨rfl, He.out⟩
 by_cases b2 : 6000 < l.length
 · obtain ⟨rfl, rfl, rfl⟩ := Hz.out (meet_long b2)
   go_enter Try.func13, Try.ntmps13
   go_wp2_with (go_at_call 26; refine (isWidth_any _ _).mono ?_; rintro e w' ⟨rfl, rfl⟩)
   exact ret_rows_tmp rfl rfl rfl K0.out K1.out Try.underlying39 rfl (by kernel_rfl) (by kernel_rfl) rfl ⟨rfl, He.out⟩
 have b3 : l.length ≤ 6000 := by omega
 have hmm := @run_makeMap Try.prog
 have M0 := hU (MapAt.made ((w.alloc (.cells #[.int .i64 0, .string ⟨#[]⟩] 39)).alloc (.cells #[.int .i64 0, .string ⟨#[]⟩] 39)))
 go_enter Try.func13, Try.ntmps13
 go_wp2_with (go_at_call 26; refine (isWidth_any _ _).mono ?_; rintro e w' ⟨rfl, rfl⟩)
 have M1 := M0.out
 have E1 := Ext.new He.out (.map #[] 0)
 have K0' := K0.out.alloc (.map #[] 0)
 have K1' := K1.out.alloc (.map #[] 0)
 simp only [World.size_alloc] at M1
 have Z0 := hU M1; have Z1 := hU E1; have Z2 := hU K0'; have Z3 := hU K1'
 clear M0 K0 K1 He M1 E1 K0' K1' hmm
 obtain ⟨g, hg⟩ : ∃ g, g = w.heap.size := ⟨_, rfl⟩
 rw [← hg] at Z0 Z2 Z3
 rw [← hg]
 have hg0 : w.heap.size ≤ g := by omega
 clear hg
 go_loopw [27] (fun x wr => ∃ (k : Nat), k ≤ l.length ∧ x = .int .i64 k ∧ NoMeet n l k ∧ MapAt wr (g + 1 + 1) k (firsts n l k) ∧ Blk wr g 39 #[.int .i64 0, .string ⟨#[]⟩] ∧ Blk wr (g + 1) 39 #[.int .i64 0, .string ⟨#[]⟩] ∧ Ext w wr) (fun x _ => l.length - (intOf x).toNat)
 case atStart => exact ⟨0, Nat.zero_le _, rfl, NoMeet.zero n l, Z0.out, Z2.out, Z3.out, Z1.out⟩
 case round =>
  clear Z0 Z1 Z2 Z3
  obtain ⟨k, hk, rfl, hno, hM, hK0, hK1, he⟩ := hrel
  have KN := hU hno; have KM := hU hM; have K0 := hU hK0; have K1 := hU hK1
  clear hno hM hK0 hK1
  by_cases hlt : k < l.length
  case neg =>
   obtain ⟨rfl, rfl, rfl⟩ := Hz.out (KN.out.all (by omega))
   obtain ⟨r0, m0⟩ := K0.out.rules
   obtain ⟨r1, m1⟩ := K1.out.rules
   go_wp2_with fail
   exact two_pre_ret hg0 K0.out K1.out he pz pz false rfl rfl rfl rfl rfl rfl
  obtain ⟨b, off, rfl, hb, hc⟩ := (hr.below he).at_ (k := k) hlt
  obtain ⟨d, hd⟩ : ∃ d, d = l[k] := ⟨_, rfl⟩
  have hdl : l[k]? = some d := by rw [hd]; exact List.getElem?_eq_getElem hlt
  have hdo := Hok.out d (List.mem_of_getElem? hdl)
  obtain ⟨c0, c1⟩ := pre_at hc hdl
  have Hdl := hU hdl
  clear hc hd hdl
  go_wp2_with fail
  refine (implPreHash_any n d _ hdo).mono ?_
  rintro e w1 ⟨rfl, h1⟩
  have KC := hU ((Blk.new _ _ _).ext h1)
  replace he := (Ext.new he _).next h1
  have h2 := Ext.next (Ext.new (Below.refl wr.heap.size wr) _) h1
  have hgl := K1.out.lt
  replace KM := hU (KM.out.ext h2); replace K0 := hU (K0.out.ext h2); replace K1 := hU (K1.out.ext h2)
  clear h1 h2 c0 c1
  obtain ⟨gc, hgc⟩ : ∃ gc, gc = wr.heap.size := ⟨_, rfl⟩
  rw [← hgc] at KC
  rw [← hgc]
  rw [← hgc] at hgl
  clear hgc
  have hds := digest_le n d.tag d.text
  cases b4 : digestOk n d.tag d.text
  case false =>
   have N1 := hU (KN.out.next (meetAt_bad Hdl.out b4))
   replace KM := hU (KM.out); rw [← firsts_bad Hdl.out b4] at KM; replace KM := hU (KM.out.mono (Nat.le_succ k))
   clear KN Hdl
   go_wp2_with fail
   go_roundw
   case rel => exact ⟨k + 1, by omega, by go_num, N1.out, KM.out, K0.out, K1.out, he⟩
   case measure => simp [intOf]; omega
  have hb5 := hb
  have hgB : b < g := by omega
  obtain ⟨y, hy⟩ : ∃ y, y = digest n d.tag d.text := ⟨_, rfl⟩
  have L0 := KM.out.look y (by rw [hy]; unfold maxLen; omega)
  rw [← hy] at hds
  rw [← hy]
  have Hy := hU hy
  cases b5 : firsts n l k y with
  | none =>
    have N1 := hU (KN.out.next (meetAt_new Hdl.out b4 (by rw [← Hy.out]; exact b5)))
    have F1 := hU (show fput (firsts n l k) y k = firsts n l (k + 1) by
     funext s
     rw [firsts_new Hdl.out b4 (by rw [← Hy.out]; exact b5), ← Hy.out]; rfl)
    rw [b5] at L0
    simp only [Option.getD_none, Option.isSome_none] at L0
    clear KN Hdl b5 hy
    go_wp2_with (at_mapUpdate; refine wpList_store_at _ rfl _ _ _ rfl (g + 1 + 1) k k y (firsts n l k) rfl KM.out (by unfold maxLen; omega) rfl rfl (by unfold maxLen; omega) (by omega) ?_)
    intro w2 hM2 hgr
    rw [F1.out] at hM2
    have he2 := Ext.mapGrown he hgr (by omega)
    have K0' := hU (K0.out.grown hgr (by simp <;> omega)); have K1' := hU (K1.out.grown hgr (by simp <;> omega))
    have KM2 := hU hM2
    clear hM2 hgr K0 K1 KM he
    go_wp2_with fail
    go_roundw
    case rel => exact ⟨k + 1, by omega, by go_num, N1.out, KM2.out, K0'.out, K1'.out, he2⟩
    case measure => simp [intOf]; omega
  | some i =>
    have hik : i < k := (first_parts (by rw [← b5]; rfl : firstAt n l y k = some i)).2.1
    obtain ⟨b', off', hbb, hb', hc'⟩ := (hr.below he).at_ (k := i) (by omega)
    obtain ⟨rfl, rfl⟩ : b' = b ∧ off' = off := by simpa using hbb.symm
    obtain ⟨a, ha⟩ : ∃ a, a = l[i] := ⟨_, rfl⟩
    have hai : l[i]? = some a := by rw [ha]; exact List.getElem?_eq_getElem (by omega)
    obtain ⟨c0, c1⟩ := pre_at hc' hai
    have OLD := meetAt_old KN.out Hdl.out b4 (by rw [← Hy.out]; exact b5) hai
    have F1 := hU (firsts_old Hdl.out (by rw [← Hy.out]; exact b5))
    obtain ⟨r0, m0⟩ := KC.out.rules
    have q := PreD.run_neq a d
    rw [b5] at L0
    simp only [Option.getD_some, Option.isSome_some] at L0
    have z0 : (0 : Int) ≤ (i : Int) := by omega
    have z1 : (i : Int) < (l.length : Int) := by omega
    have Hai := hU hai
    cases b6 : a.eqb d
    case true =>
     have N1 := hU (KN.out.next (OLD.1 b6))
     rw [b6] at q
     clear OLD KN Hdl b5 hy ha hai hc' hbb
     go_wp2_with fail
     go_quiet (fail)
     rw [← F1.out] at KM
     replace KM := hU ((KM.out.mono (Nat.le_succ k)).ext (Ext.drewN (Below.refl _ _) nq))
     go_wp2_with fail
     go_roundw
     case rel => exact ⟨k + 1, by omega, by go_num, N1.out, KM.out, K0.out.drewN _, K1.out.drewN _, he.drewN _⟩
     case measure => simp [intOf]; omega
    have HIT := hU (Hv.out i k a d (KN.out.hit (OLD.2 b6) b1 b3 hlt) Hai.out Hdl.out)
    rw [b6] at q
    clear OLD KN Hdl b5 hy ha hai hc' hbb Hv
    go_wp2_with fail
    go_quiet (fail)
    replace he := he.drewN nq
    have K0' := K0.out.drewN nq; have K1' := K1.out.drewN nq; have KC' := KC.out.drewN nq
    have e0 : (w1.drewN nq).cell? ⟨b', off' + i * 2, none⟩ = some (.int .i64 a.tag) := c0
    have e1 : (w1.drewN nq).cell? ⟨b', off' + i * 2 + 1, none⟩ = some (.string a.text) := c1
    clear r0 m0 c0 c1 L0 q K0 K1 KC KM
    generalize w1.drewN nq = w2 at *
    obtain ⟨r0, m0⟩ := KC'.rules
    obtain ⟨r1, m1⟩ := K0'.rules
    obtain ⟨r2, m2⟩ := K1'.rules
    have n0 : b' ≠ g := by omega
    have n1 : b' ≠ g + 1 := by omega
    have n2 : gc ≠ g := by omega
    have n3 : gc ≠ g + 1 := by omega
    go_wp2_with fail
    go_region
    all_goals
     go_wp2_with fail
     obtain ⟨rfl, rfl, rfl⟩ := HIT.out
     exact two_pre_retd hg0 K0' K1' he X Y true rfl rfl rfl rfl rfl rfl
end Go.Proofs.Ytgeengkdgdjcjaa
