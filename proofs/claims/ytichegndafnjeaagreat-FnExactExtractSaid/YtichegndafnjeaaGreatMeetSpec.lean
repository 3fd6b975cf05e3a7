/-
  The reference's Meet: walk. No condition.
-/
import Derived.Test.YtichegndafnjeaaGreatMeetImpl
namespace Go.Proofs.YtichegndafnjeaaGreat
open Go.RowKit
set_option linter.unusedVariables false

def hashesB (n : Int) (l : List PreD) : List ByteArray := l.map fun d => digest n d.tag d.text
theorem hashesB_len (n : Int) (l : List PreD) : (hashesB n l).length = l.length := by simp [hashesB]
theorem hashesB_at {n : Int} {l : List PreD} {k : Nat} {d : PreD} (h : l[k]? = some d) : (hashesB n l)[k]? = some (digest n d.tag d.text) := by simp [hashesB, h]
theorem hashesB_snoc {n : Int} {l : List PreD} {k : Nat} {d : PreD} (h : l[k]? = some d) : svals ((hashesB n l).take k) ++ [.string (digest n d.tag d.text)] = svals ((hashesB n l).take (k + 1)) := by
  have hk : k < (hashesB n l).length := by rw [hashesB_len]; exact (List.getElem?_eq_some_iff.1 h).1
  have e : (hashesB n l)[k] = digest n d.tag d.text := by have := hashesB_at (n := n) h; rw [List.getElem?_eq_getElem hk] at this; simpa using this
  rw [List.take_succ_eq_append_getElem hk, svals_snoc, e]
theorem sval_at {l : List ByteArray} {w : World} {b off : Nat} {k : Nat} {s : ByteArray} (hc : ∀ j u, (svals l)[k * 1 + j]? = some u → w.cell? ⟨b, off + k * 1 + j, none⟩ = some u) (hs : l[k]? = some s) : w.cell? ⟨b, off + k, none⟩ = some (.string s) := by
  have := hc 0 (.string s) (by simp [svals, hs])
  simpa using this
/-- Below i none of them clashes with k. -/
def NoClash (n : Int) (l : List PreD) (k i : Nat) : Prop := ∀ j, j < i → clashB n l k j = false
theorem NoClash.next {n : Int} {l : List PreD} {k i : Nat} (h : NoClash n l k i) (h2 : clashB n l k i = false) : NoClash n l k (i + 1) := fun j hj => by
  by_cases e : j = i
  · rw [e]; exact h2
  · exact h j (by omega)
theorem NoClash.all {n : Int} {l : List PreD} {k i : Nat} (h : NoClash n l k i) (hi : k ≤ i) : meetAt n l k = none := meetAt_none.2 fun j hj => h j (by omega)
theorem NoClash.hit {n : Int} {l : List PreD} {k i : Nat} (h : NoClash n l k i) (hi : i < k) (h2 : clashB n l k i = true) : meetAt n l k = some (i, k) := by
  have : (List.range k).find? (clashB n l k) = some i := List.find?_range_eq_some.2 ⟨h2, List.mem_range.2 hi, fun j hj => by rw [h j hj]; rfl⟩
  rw [meetAt, this]; rfl
theorem empty_bad {n tag : Int} {T : ByteArray} (h : (digest n tag T).toList.isEmpty = true) : digestOk n tag T = false := by
  cases b : digestOk n tag T
  · rfl
  · have h2 := (digest_ok_iff n tag T).1 b
    have h3 : (digest n tag T).toList = [] := by simpa using h
    rw [ByteArray.toList_eq] at h3
    exact absurd (by show (digest n tag T).data.size = 0; rw [← Array.length_toList, h3]; rfl) h2
theorem full_ok {n tag : Int} {T : ByteArray} (h : (digest n tag T).toList.isEmpty = false) : digestOk n tag T = true := by
  rw [digest_ok_iff]
  intro h2
  have h3 : (digest n tag T).data.toList = [] := List.eq_nil_of_length_eq_zero (by rw [Array.length_toList]; exact h2)
  rw [ByteArray.toList_eq, h3] at h
  cases h
set_option maxHeartbeats 8000000 in
set_option maxRecDepth 100000 in
theorem specMeet_any (n : Int) (A : Option Addr) (c : Nat) (l : List PreD) (w : World) (hr : ReadsL w w.heap.size PreD.cells 2 A l) (hok : ∀ d ∈ l, d.Ok) (hl : l.length ≤ 1048576) :
    Calls Tryz.prog 30 #[.int .i64 n, .slice A l.length c] w fun e w' => e = .returned (.tuple #[.agg #[.int .i64 (meetA n l).tag, .string (meetA n l).text], .agg #[.int .i64 (meetB n l).tag, .string (meetB n l).text], .bool (meetOk n l)]) ∧ Ext w w' := by
  have Hok := Lib.hid hok; clear hok
  obtain ⟨X, hX⟩ : ∃ X, X = meetA n l := ⟨_, rfl⟩
  obtain ⟨Y, hY⟩ : ∃ Y, Y = meetB n l := ⟨_, rfl⟩
  obtain ⟨ok, hok⟩ : ∃ ok, ok = meetOk n l := ⟨_, rfl⟩
  have Hz : Hid (meet n l = none → X = pz ∧ Y = pz ∧ ok = false) := Lib.hid (fun h => by rw [hX, hY, hok]; exact meet_zero h)
  have Hv : Hid (∀ (i k : Nat) (a b : PreD), meet n l = some (i, k) → l[i]? = some a → l[k]? = some b → X = a ∧ Y = b ∧ ok = true) := Lib.hid (fun i k a b h ha hb => by rw [hX, hY, hok]; exact meet_vals h ha hb)
  rw [← hX, ← hY, ← hok]
  clear hX hY hok
  have K0 := Lib.hid ((Blk.new w 25 #[.int .i64 0, .string ⟨#[]⟩]).alloc (.cells #[.int .i64 0, .string ⟨#[]⟩] 25))
  have k1 := Blk.new (w.alloc (.cells #[.int .i64 0, .string ⟨#[]⟩] 25)) 25 #[.int .i64 0, .string ⟨#[]⟩]
  simp only [World.size_alloc] at k1
  have K1 := Lib.hid k1
  clear k1
  have He := Lib.hid (Ext.new (Ext.new (Below.refl w.heap.size w) (.cells #[.int .i64 0, .string ⟨#[]⟩] 25)) (.cells #[.int .i64 0, .string ⟨#[]⟩] 25))
  cases b1 : inR n 1 32
  · obtain ⟨rfl, rfl, rfl⟩ := Hz.out (meet_wide b1)
    go_enter Tryz.func30, Tryz.ntmps30
    go_wp2_with (go_at_call 78; refine (l02Width_any _ _).mono ?_; rintro e w' ⟨rfl, rfl⟩)
    exact ret_rows_tmp rfl rfl rfl K0.out K1.out Tryz.underlying25 rfl (by kernel_rfl) (by kernel_rfl) rfl ⟨rfl, He.out⟩
  by_cases b2 : 6000 < l.length
  · obtain ⟨rfl, rfl, rfl⟩ := Hz.out (meet_long b2)
    go_enter Tryz.func30, Tryz.ntmps30
    go_wp2_with (go_at_call 78; refine (l02Width_any _ _).mono ?_; rintro e w' ⟨rfl, rfl⟩)
    exact ret_rows_tmp rfl rfl rfl K0.out K1.out Tryz.underlying25 rfl (by kernel_rfl) (by kernel_rfl) rfl ⟨rfl, He.out⟩
  have b3 : l.length ≤ 6000 := by omega
  obtain ⟨i0, hi, hz0, hz1, hz2⟩ := info_parts info_str
  have O0 := ownsRow_empty ((w.alloc (.cells #[.int .i64 0, .string ⟨#[]⟩] 25)).alloc (.cells #[.int .i64 0, .string ⟨#[]⟩] 25)) 9 1
  simp only [World.size_alloc] at O0
  have Z0 := Lib.hid O0
  have Z1 := Lib.hid (Ext.new He.out (.cells #[] 9))
  have Z2 := Lib.hid (K0.out.alloc (.cells #[] 9))
  have Z3 := Lib.hid (K1.out.alloc (.cells #[] 9))
  clear O0 K0 K1 He
  go_enter Tryz.func30, Tryz.ntmps30
  go_wp2_with (go_at_call 78; refine (l02Width_any _ _).mono ?_; rintro e w' ⟨rfl, rfl⟩)
  obtain ⟨g, hg⟩ : ∃ g, g = w.heap.size := ⟨_, rfl⟩
  rw [← hg] at Z0 Z2 Z3
  rw [← hg]
  have hg0 : w.heap.size ≤ g := by omega
  clear hg
  go_loopw [7, 8] (fun v x wr => ∃ (k : Nat), k ≤ l.length ∧ x = .int .i64 k ∧ wr.ownsRow (g + 1 + 1) 9 1 v k (svals ((hashesB n l).take k)) ∧ Blk wr g 25 #[.int .i64 0, .string ⟨#[]⟩] ∧ Blk wr (g + 1) 25 #[.int .i64 0, .string ⟨#[]⟩] ∧ Ext w wr) (fun _ x _ => l.length - (intOf x).toNat)
  case atStart => exact ⟨0, Nat.zero_le _, rfl, by simpa [svals] using Z0.out, Z2.out, Z3.out, Z1.out⟩
  case round =>
    clear Z0 Z1 Z2 Z3
    obtain ⟨k, hk, rfl, hown, hK0, hK1, he⟩ := hrel
    obtain ⟨V, cv, rfl, hnc⟩ := ownsRow_form hown
    have KO := Lib.hid hown; have K0 := Lib.hid hK0; have K1 := Lib.hid hK1
    clear hown hK0 hK1
    by_cases hlt : k < l.length
    case pos =>
      have hd1 : decide ((k : Int) < (l.length : Int)) = true := by rw [decide_eq_true_eq]; omega
      obtain ⟨b, off, rfl, hb, hc⟩ := (hr.below he).at_ (k := k) hlt
      obtain ⟨d, hd⟩ : ∃ d, d = l[k] := ⟨_, rfl⟩
      have hdl : l[k]? = some d := by rw [hd]; exact List.getElem?_eq_getElem hlt
      have hdo := Hok.out d (List.mem_of_getElem? hdl)
      obtain ⟨c0, c1⟩ := pre_at hc hdl
      have HS := Lib.hid (hashesB_snoc (n := n) hdl)
      clear hc hd hdl
      go_wp2_with fail
      refine (specPreHash_any n d _ hdo).mono ?_
      rintro e w1 ⟨rfl, h1⟩
      replace he := he.next h1
      replace KO := Lib.hid (ownsRow_ext KO.out h1); replace K0 := Lib.hid (K0.out.ext h1); replace K1 := Lib.hid (K1.out.ext h1)
      have hg2 : g + 1 < w1.heap.size := K1.out.lt
      clear h1 c0 c1
      obtain ⟨y, hy⟩ : ∃ y, y = digest n d.tag d.text := ⟨_, rfl⟩
      rw [← hy] at HS
      rw [← hy]
      clear hy
      go_wp2_with (at_builtin; refine wpList_append_own _ rfl _ _ 39 rfl (g + 1 + 1) 9 i0 (.string ⟨#[]⟩) 1 16 Tryz.underlying39 hi hz0 hz1 hz2 rfl (by decide) _ _ _ rfl (KO.out.alloc _) ⟨w1.heap.size, 0, none⟩ 1 1 [.string y] rfl rfl ?c1 ?c2 ?c3 ?c4 ?c5 ?_)
      case c1 => exact one_at _ _ _
      case c2 => exact one_cell rfl
      case c3 => unfold maxLen; omega
      case c4 => omega
      case c5 => simp; omega
      intro v' w2 hown' hgrow _
      have he1 := Ext.ownGrown (Ext.new he _) (KO.out.alloc _) hgrow (by omega)
      have hnb : ∀ q, q < g + 1 + 1 → some q ≠ (Value.slice V k cv).ownBlock := fun q hq e => by have := ((KO.out.alloc (.cells #[.string y] 9)).lt q e.symm).1; omega
      have K0' := Lib.hid ((K0.out.alloc (.cells #[.string y] 9)).grown hgrow (hnb g (by omega)))
      have K1' := Lib.hid ((K1.out.alloc (.cells #[.string y] 9)).grown hgrow (hnb (g + 1) (by omega)))
      rw [HS.out] at hown'
      have KO' := Lib.hid hown'
      clear hown' hgrow KO he K0 K1 hnb
      go_wp2_with fail
      go_roundw
      case rel => exact ⟨k + 1, by omega, by go_num, KO'.out, K0'.out, K1'.out, he1⟩
      case measure => simp [intOf]; omega
    case neg =>
      obtain rfl : k = l.length := by omega
      have ho := KO.out
      rw [List.take_of_length_le (by rw [hashesB_len]; exact Nat.le_refl _)] at ho
      have hH := Reads.of_own ho
      have Hh := Lib.hid hH
      clear ho KO hH
      have E0 := Lib.hid (Below.refl wr.heap.size wr)
      go_wp2_with fail
      obtain ⟨wo, rfl⟩ : ∃ wo : World, wo = wr := ⟨_, rfl⟩
      go_loopw [11, 12] (fun x x2 w1 => ∃ (k : Nat), k ≤ l.length ∧ x = .int .i64 k ∧ NoMeet n l k ∧ Ext wo w1) (fun x _ _ => l.length - (intOf x).toNat)
      case atStart => exact ⟨0, Nat.zero_le _, rfl, NoMeet.zero n l, E0.out⟩
      case round =>
        clear E0
        obtain ⟨k, hk, rfl, hno, h1⟩ := hrel
        have KN := Lib.hid hno
        clear hno
        by_cases hlt : k < l.length
        case neg =>
          obtain ⟨rfl, rfl, rfl⟩ := Hz.out (KN.out.all (by omega))
          have K0' := K0.out.ext h1; have K1' := K1.out.ext h1; have he' := he.next h1
          have hd1 : decide ((k : Int) < (l.length : Int)) = false := by rw [decide_eq_false_iff_not]; omega
          obtain ⟨r0, m0⟩ := K0'.rules
          obtain ⟨r1, m1⟩ := K1'.rules
          go_wp2_with fail
          exact two_pre_ret hg0 K0' K1' he' pz pz false rfl rfl rfl rfl rfl rfl
        have hd1 : decide ((k : Int) < (l.length : Int)) = true := by rw [decide_eq_true_eq]; omega
        have E0 := Lib.hid h1
        have CL : NoClash n l k 0 := fun j h => absurd h (by omega)
        go_wp2_with fail
        obtain ⟨wq, rfl⟩ : ∃ wq : World, wq = wr := ⟨_, rfl⟩
        go_loopw [12] (fun x w1 => ∃ (i : Nat), i ≤ k ∧ x = .int .i64 i ∧ NoClash n l k i ∧ Ext wo w1) (fun x _ => k - (intOf x).toNat)
        case atStart => exact ⟨0, Nat.zero_le _, rfl, CL, E0.out⟩
        case round =>
          clear CL E0 h1
          obtain ⟨i, hi2, rfl, hcl, h1⟩ := hrel
          have KC := Lib.hid hcl
          clear hcl
          by_cases hik : i < k
          case neg =>
            have N1 := Lib.hid (KN.out.next (KC.out.all (by omega)))
            go_wp2_with fail
            go_roundw
            case rel => exact ⟨k + 1, by omega, by go_num, N1.out, h1⟩
            case measure => simp [intOf]; omega
          have he1 := he.next h1
          obtain ⟨b, off, rfl, hb, hc⟩ := (hr.below he1).at_ (k := k) hlt
          obtain ⟨b', off', hbb, hb', hc'⟩ := (hr.below he1).at_ (k := i) (by omega)
          obtain ⟨rfl, rfl⟩ : b' = b ∧ off' = off := by simpa using hbb.symm
          obtain ⟨d, hd⟩ : ∃ d, d = l[k] := ⟨_, rfl⟩
          have hdl : l[k]? = some d := by rw [hd]; exact List.getElem?_eq_getElem hlt
          obtain ⟨a, ha⟩ : ∃ a, a = l[i] := ⟨_, rfl⟩
          have hai : l[i]? = some a := by rw [ha]; exact List.getElem?_eq_getElem (by omega)
          obtain ⟨c0, c1⟩ := pre_at hc hdl
          obtain ⟨c2, c3⟩ := pre_at hc' hai
          obtain ⟨bh, oh, rfl, hbh, hch⟩ := (Hh.out.below h1).at_ (k := k) hlt
          obtain ⟨bh', oh', hbb2, hbh', hch'⟩ := (Hh.out.below h1).at_ (k := i) (by omega)
          obtain ⟨rfl, rfl⟩ : bh' = bh ∧ oh' = oh := by simpa using hbb2.symm
          have c4 := sval_at hch (hashesB_at (n := n) hdl)
          have c5 := sval_at hch' (hashesB_at (n := n) hai)
          have HC := Lib.hid (clash_of (n := n) hai hdl)
          have q := PreD.run_neq a d
          obtain ⟨y, hy⟩ : ∃ y, y = digest n d.tag d.text := ⟨_, rfl⟩
          obtain ⟨z, hz⟩ : ∃ z, z = digest n a.tag a.text := ⟨_, rfl⟩
          rw [← hy] at c4
          rw [← hz] at c5
          have HC2 : Hid (clashP n a d = (digestOk n d.tag d.text && (z.toList == y.toList) && !(a.eqb d))) := Lib.hid (by rw [hy, hz]; rfl)
          have HE : Hid (∀ b, y.toList.isEmpty = b → digestOk n d.tag d.text = !b) := Lib.hid (fun b hb => by
            rw [hy] at hb
            cases b
            · exact full_ok hb
            · exact empty_bad hb)
          have Hai := Lib.hid hai; have Hdl := Lib.hid hdl
          have z0 : (0 : Int) ≤ (i : Int) := by omega
          have z1 : (i : Int) < (l.length : Int) := by omega
          have z2 : (0 : Int) ≤ (k : Int) := by omega
          have z3 : (k : Int) < (l.length : Int) := by omega
          clear hc hc' hd ha hdl hai hch hch' hbb hbb2 hy hz
          cases b4 : y.toList.isEmpty
          case true =>
            have F := Lib.hid (KC.out.next (by rw [HC.out, HC2.out, HE.out _ b4]; rfl))
            have b4' : y.toList = [] := by simpa using b4
            go_wp2_with fail
            go_quiet (fail)
            go_wp2_with fail
            go_roundw
            case rel => exact ⟨i + 1, by omega, by go_num, F.out, Ext.drewN h1 _⟩
            case measure => simp [intOf]; omega
          cases b5 : (z.toList == y.toList)
          case false =>
            have F := Lib.hid (KC.out.next (by rw [HC.out, HC2.out, b5]; simp))
            go_wp2_with fail
            go_quiet (fail)
            go_wp2_with fail
            go_roundw
            case rel => exact ⟨i + 1, by omega, by go_num, F.out, Ext.drewN h1 _⟩
            case measure => simp [intOf]; omega
          cases b6 : a.eqb d
          case true =>
            have F := Lib.hid (KC.out.next (by rw [HC.out, HC2.out, b6]; simp))
            rw [b6] at q
            clear b6
            go_wp2_with fail
            go_quiet (fail)
            go_wp2_with fail
            go_roundw
            case rel => exact ⟨i + 1, by omega, by go_num, F.out, Ext.drewN h1 _⟩
            case measure => simp [intOf]; omega
          have HIT := Lib.hid (Hv.out i k a d (KN.out.hit (KC.out.hit hik (by rw [HC.out, HC2.out, HE.out _ b4, b5, b6]; rfl)) b1 b3 hlt) Hai.out Hdl.out)
          rw [b6] at q
          clear b6
          go_wp2_with fail
          go_quiet (fail)
          have K0' := (K0.out.ext h1).drewN nq; have K1' := (K1.out.ext h1).drewN nq
          have e0 : (wr.drewN nq).cell? ⟨b', off' + i * 2, none⟩ = some (.int .i64 a.tag) := c2
          have e1 : (wr.drewN nq).cell? ⟨b', off' + i * 2 + 1, none⟩ = some (.string a.text) := c3
          have e2 : (wr.drewN nq).cell? ⟨b', off' + k * 2, none⟩ = some (.int .i64 d.tag) := c0
          have e3 : (wr.drewN nq).cell? ⟨b', off' + k * 2 + 1, none⟩ = some (.string d.text) := c1
          have he2 := Ext.drewN he1 nq
          clear c0 c1 c2 c3 c4 c5 q KC KN HC HC2 HE h1 he1 he Hh K0 K1
          generalize wr.drewN nq = w2 at *
          obtain ⟨r1, m1⟩ := K0'.rules
          obtain ⟨r2, m2⟩ := K1'.rules
          have n0 : b' ≠ g := by omega
          have n1 : b' ≠ g + 1 := by omega
          go_wp2_with fail
          go_region
          all_goals
            go_wp2_with fail
            obtain ⟨rfl, rfl, rfl⟩ := HIT.out
            exact two_pre_retd hg0 K0' K1' he2 X Y true rfl rfl rfl rfl rfl rfl
end Go.Proofs.YtichegndafnjeaaGreat
