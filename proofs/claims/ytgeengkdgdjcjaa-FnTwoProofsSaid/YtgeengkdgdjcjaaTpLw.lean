/-
  TpLw: No condition.
-/
import Derived.Test.YtgeengkdgdjcjaaSmall
import Derived.Test.YtgeengkdgdjcjaaTwoW
import Derived.Test.YtgeengkdgdjcjaaTwoP
import Derived.Test.YtgeengkdgdjcjaaNodeW
import Derived.Test.YtgeengkdgdjcjaaMeetOps
import Derived.Test.YtgeengkdgdjcjaaMeetImpl
import Derived.Test.YtgeengkdgdjcjaaBrok
import Derived.Test.YtgeengkdgdjcjaaPlacesW
import Derived.Test.YtgeengkdgdjcjaaDraw8
import Derived.Test.YtgeengkdgdjcjaaBig
import Derived.Test.YtgeengkdgdjcjaaAppSrc
import Derived.Test.YtgeengkdgdjcjaaBunch
namespace Go.Proofs.Ytgeengkdgdjcjaa
set_option maxHeartbeats 16000000
set_option maxRecDepth 100000
set_option linter.unusedSimpArgs false
open Go.RowKit Go.WideShapes Go.ChangeAt
set_option linter.unusedVariables false
theorem info_pre2 : (Try.prog.info? 39).map (fun i => (i.zero, i.size, i.bytes)) = some (some (.agg #[.int .i64 0, .string ⟨#[]⟩]), 2, 24) := by kernel_rfl
def lvB (n : Int) (L : List ByteArray) : Bool := decide (L.length ≤ 512) && (hashes n L && inR n 1 32)
theorem lvB_good {n : Int} {L : List ByteArray} (h : lvB n L = true) : L.length ≤ 512 ∧ ∃ k : Nat, n = (k : Int) ∧ 1 ≤ k ∧ k ≤ 32 ∧ ∀ s ∈ L, s.size = k := by
 simp only [lvB, Bool.and_eq_true, decide_eq_true_eq] at h
 obtain ⟨h1, h2, h3⟩ := h
 have h4 := inR_true h3
 refine ⟨h1, n.toNat, by omega, by omega, by omega, fun s hs => ?_⟩
 rw [hashes, List.all_eq_true] at h2
 have := beq_iff_eq.1 (h2 s hs)
 omega
theorem ndL_ok {w n a : Int} {lf : ByteArray} {p : List ByteArray} : ∀ d ∈ ndL (textsIn w n a lf p), d.Ok := fun d hd => by
 obtain ⟨t, ht, rfl⟩ := List.mem_map.1 hd
 have := (textsIn_small w n a lf p).2 t ht
 exact ⟨(by decide : (Lit.int .i64 1).wf = true), by show t.size ≤ maxLen; unfold maxLen; omega⟩
theorem ndL_next {ts : List ByteArray} {k : Nat} {t : ByteArray} (h : ts[k]? = some t) (X : List PreD) : (X ++ ndL (ts.take k)).flatMap PreD.cells ++ [.int .i64 1, .string t] = (X ++ ndL (ts.take (k + 1))).flatMap PreD.cells := by
 obtain ⟨hk, rfl⟩ := List.getElem?_eq_some_iff.1 h
 rw [List.take_succ_eq_append_getElem hk, ndL, ndL, List.map_append]
 simp [List.flatMap_append, PreD.cells]
theorem ext_name {w w' : World} (h : Ext w w') : ∃ u, u = w' := ⟨w', rfl⟩
theorem byte9_typed {w : World} {n : Nat} {cs : List Value} (h : Typed Try.prog w n 5 cs) : ∃ x, cs = byteC x ∧ ByteIn x := by
 obtain ⟨m, rfl, hw⟩ := typed_int Try.underlying5 h
 refine ⟨m, rfl, ?_⟩
 simp [Lit.wf, IntKind.min, IntKind.max, IntKind.signed, IntKind.bits] at hw
 exact ⟨by omega, by omega⟩
theorem lawTwoProofs_walk (A : Option Addr) (c : Nat) (l : List Int) (w : World) (hlen : l.length ≤ maxLen) (hin : ∀ x ∈ l, ByteIn x) (hr : ReadsL w w.heap.size byteC 1 A l) :
 Calls Try.prog 3 #[.slice A l.length c] w fun e w' => e = .returned (.bool true) ∧ Ext w w' := by
 by_cases hb : 1048576 < l.length
 · have hd : decide (1048576 < l.length) = true := decide_eq_true hb
   go_enter Try.func3, Try.ntmps3
   go_wp2_with (go_at_call 4; refine (big_any _ _ _ _ hlen).mono ?_; rintro e w' ⟨rfl, rfl⟩; rw [hd])
   go_ret
   exact ⟨rfl, Below.refl _ _⟩
 have hd : decide (1048576 < l.length) = false := decide_eq_false hb
 have Hr := hU hr; clear hr
 have Hin := hU hin; clear hin
 go_enter Try.func3, Try.ntmps3
 go_wp2_with (go_at_call 4; refine (big_any _ _ _ _ hlen).mono ?_; rintro e w' ⟨rfl, rfl⟩; rw [hd])
 obtain ⟨iS, hSi, hS0, hS1, hS2⟩ := info_parts info_string
 obtain ⟨iP, hPi, hP0, hP1, hP2⟩ := info_parts info_pre2
 refine (DrawRootOf_any A c l _ hlen Hin.out Hr.out).mono ?_
 rintro e w1 ⟨n0, v0, L0, rfl, hL0, ho, he⟩
 obtain ⟨V0, c0, rfl, _⟩ := ownsRow_form ho
 have DP := hU (fun (W : World) (h : Ext w W) => DrawPlaces_any A c l W hlen Hin.out (Hr.out.ext h))
 have S0 := hU (show RowT w.heap.size w1 (.slice V0 L0.length c0) L0 from ho)
 have HE := hU he
 obtain ⟨ok, hok⟩ : ∃ ok, ok = lvB n0 L0 := ⟨_, rfl⟩
 have LO := hU (fun (W : World) (h : Ext w1 W) => specLeavesOk_any n0 V0 c0 L0 W ((slf_at (S0.out.ext h)).any.reads) (by omega))
 rw [show (decide (L0.length ≤ 512) && (hashes n0 L0 && inR n0 1 32)) = lvB n0 L0 from rfl, ← hok] at LO
 have HOK := hU hok
 clear ho he hok hd hb Hin Hr
 go_upto_region 4 with fail
 obtain ⟨bb, hbb⟩ : ∃ bb, bb = (!ok || decide (L0.length = 0)) := ⟨_, rfl⟩
 have HBB := hU hbb
 clear hbb
 go_cut [43] from 35 to 43 (fun u wx => u = .bool bb ∧ Ext w1 wx)
 case first => as_aux_lemma =>
  cases ok
  case false =>
   have E := hU (show bb = true from HBB.out)
   go_wp2_with fail
   refine (LO.out _ (Below.refl _ _)).mono ?_
   rintro e wx ⟨rfl, h1⟩
   go_wp2_with fail
   go_meet
   case rel => exact ⟨by rw [E.out], h1⟩
  by_cases hz : L0.length = 0
  · have E := hU (show bb = true by rw [HBB.out, decide_eq_true hz]; rfl)
    have z1 : ((L0.length : Int) == 0) = true := beq_iff_eq.2 (by omega)
    clear hz
    go_wp2_with fail
    refine (LO.out _ (Below.refl _ _)).mono ?_
    rintro e wx ⟨rfl, h1⟩
    go_wp2_with fail
    go_meet
    case rel => exact ⟨by rw [E.out], h1⟩
  · have E := hU (show bb = false by rw [HBB.out, decide_eq_false hz]; rfl)
    have z1 : ((L0.length : Int) == 0) = false := beq_false_of_ne (by omega)
    clear hz
    go_wp2_with fail
    refine (LO.out _ (Below.refl _ _)).mono ?_
    rintro e wx ⟨rfl, h1⟩
    go_wp2_with fail
    go_meet
    case rel => exact ⟨by rw [E.out], h1⟩
 case rest =>
 obtain ⟨rfl, h1⟩ := hcut
 replace S0 := hU (S0.out.ext h1); replace HE := hU (HE.out.next h1)
 obtain ⟨wa, hwa⟩ := ext_name h1
 subst hwa
 clear LO h1
 go_upto_if 43 with fail
 go_cut [3, 4] (fun x y wx => ∃ (n : Nat) (V : Option Addr) (cv : Nat) (M : List ByteArray), x = .int .i64 (n : Int) ∧ y = .slice V M.length cv ∧ 1 ≤ n ∧ n ≤ 32 ∧ 0 < M.length ∧ M.length ≤ 512 ∧ (∀ s ∈ M, s.size = n) ∧ RowT w.heap.size wx (.slice V M.length cv) M ∧ Ext w wx)
 case first => as_aux_lemma =>
  cases hb2 : bb
  case true =>
   have hw2 := HE.out.size
   have R0 := hU (RowT.new wa [⟨#[97]⟩, ⟨#[98]⟩, ⟨#[99]⟩] hw2 (by decide))
   have X0 := hU (HE.out.next (Ext.new (Below.refl wa.heap.size wa) (.cells ([⟨#[97]⟩, ⟨#[98]⟩, ⟨#[99]⟩].map Value.string).toArray 9)))
   subst hb2
   clear hw2 S0 HE
   go_wp2_with fail
   go_meet
   case rel => exact ⟨1, _, _, [⟨#[97]⟩, ⟨#[98]⟩, ⟨#[99]⟩], rfl, rfl, by decide, by decide, by decide, by decide, by intro s hs; simp at hs; rcases hs with rfl | rfl | rfl <;> rfl, R0.out, X0.out⟩
  case false =>
   have hq := HBB.out
   rw [hb2] at hq
   have hok : ok = true := by
    cases ok
    · simp at hq
    · rfl
   have hne : L0.length ≠ 0 := fun e => by rw [decide_eq_true e, Bool.or_true] at hq; cases hq
   rw [HOK.out] at hok
   obtain ⟨k1, k, rfl, k2, k3, k4⟩ := lvB_good hok
   subst hb2
   clear hq hok
   go_wp2_with fail
   go_meet
   case rel => exact ⟨k, _, _, L0, rfl, rfl, k2, k3, by omega, k1, k4, S0.out, HE.out⟩
 case rest =>
 clear S0 HE HBB HOK
 obtain ⟨n, V, cv, M, rfl, rfl, hn1, hn2, hM0, hM5, hMs, hrow, he⟩ := hcut
 obtain ⟨q, rfl, hq, hql, _⟩ := RowT.put_at hrow rfl (k := 0) hM0
 obtain ⟨LN, hLN⟩ : ∃ LN, LN = M.length := ⟨_, rfl⟩
 rw [← hLN] at hrow hM0 hM5
 rw [← hLN]
 obtain ⟨wb, hwb⟩ := ext_name he
 subst hwb
 have S1 := hU hrow; have HE := hU he; have MS := hU hMs; have ML := hU hLN.symm
 clear hrow he hMs hLN
 go_upto_region 7 with fail
 go_cut [48] from 45 to 48 (fun u wx => ∃ b : Bool, u = .bool b ∧ wb = wx)
 case first => as_aux_lemma =>
  by_cases hm3 : (l.length : Int) % 3 > 0
  · go_wp2_with fail
    go_meet
    case rel => exact ⟨_, rfl, rfl⟩
  · go_wp2_with fail
    go_meet
    case rel => exact ⟨_, rfl, rfl⟩
 case rest =>
 obtain ⟨b3, rfl, rfl⟩ := hcut
 go_upto_if 48 with fail
 go_cut [3] (fun x wx => ∃ (m : Nat) (X : List ByteArray), x = .int .i64 (m : Int) ∧ 1 ≤ m ∧ m ≤ 32 ∧ X.length = LN ∧ (∀ s ∈ X, s.size = m) ∧ RowT w.heap.size wx (.slice (some ⟨q, 0, none⟩) LN cv) X ∧ Ext w wx)
 case first => as_aux_lemma =>
  cases b3
  case false =>
   go_wp2_with fail
   go_meet
   case rel => exact ⟨n, M, rfl, hn1, hn2, ML.out, MS.out, S1.out, HE.out⟩
  go_wp2_with fail
  have MS2 := hU (show ∀ (j : Nat) (s : ByteArray), M[j]? = some s → 1 ≤ s.size ∧ (j < 0 → s.size = 1) from fun j s h => ⟨by rw [MS.out s (List.mem_of_getElem? h)]; exact hn1, fun h => absurd h (Nat.not_lt_zero j)⟩)
  clear MS
  go_loopw [5] (fun i wr => ∃ (k : Nat) (X : List ByteArray), k ≤ LN ∧ i = .int .i64 (k : Int) ∧ X.length = LN ∧ (∀ (j : Nat) (s : ByteArray), X[j]? = some s → 1 ≤ s.size ∧ (j < k → s.size = 1)) ∧ RowT w.heap.size wr (.slice (some ⟨q, 0, none⟩) LN cv) X ∧ Ext w wr) (fun i _ => LN - (intOf i).toNat)
  case atStart => exact ⟨0, M, Nat.zero_le _, rfl, ML.out, MS2.out, S1.out, HE.out⟩
  case round => as_aux_lemma =>
   clear S1 HE MS2 ML
   obtain ⟨k, X, hk, rfl, hX, hXs, hrow, he⟩ := hrel
   have XS := hU hXs; have XL := hU hX; have RX := hU hrow; have HE := hU he
   clear hXs hX hrow he
   by_cases hlt : k < LN
   case neg =>
    have hkl : ¬ (k : Int) < (LN : Int) := by omega
    have E := hU (show k = LN by omega)
    clear hk
    go_wp2_with fail
    go_meet
    case rel => exact ⟨1, X, rfl, by decide, by decide, XL.out, fun s hs => by
     obtain ⟨j, hj⟩ := List.getElem?_of_mem hs
     have h1 := (List.getElem?_eq_some_iff.1 hj).1
     exact (XS.out j s hj).2 (by rw [E.out, ← XL.out]; exact h1), RX.out, HE.out⟩
   have hk1 := hU (show k + 1 ≤ LN from hlt)
   obtain ⟨q', e, hq', hql', cq, fq, hset⟩ := RowT.put_at RX.out XL.out (k := k) hlt
   obtain rfl : q = q' := by cases e; rfl
   obtain ⟨T, hT⟩ : ∃ T, X[k]? = some T := ⟨_, List.getElem?_eq_getElem (by rw [XL.out]; exact hlt)⟩
   have cT := cq T hT
   have hT1 := (XS.out k T hT).1
   have sT : ¬ (T.size : Int) < 1 := by omega
   have sT2 : ¬ T.size < 1 := by omega
   have kl : (k : Int) < (LN : Int) := by omega
   have k0 : ¬ (k : Int) < 0 := by omega
   have HS := hU (hset (T.extract 0 1))
   have HX := hU (Below.setCell HE.out (p := ⟨q, k, none⟩) (by show w.heap.size ≤ q; exact hq) (.string (T.extract 0 1)))
   have NS := hU (show ∀ (j : Nat) (s : ByteArray), (X.set k (T.extract 0 1))[j]? = some s → 1 ≤ s.size ∧ (j < k + 1 → s.size = 1) from fun j s h => by
    rw [List.getElem?_set] at h
    split at h
    · split at h
      · cases h
        have : (T.extract 0 1).size = 1 := by rw [ByteArray.size_extract]; omega
        omega
      · cases h
    · rename_i hne
      have h2 := XS.out j s h
      exact ⟨h2.1, fun hj => h2.2 (by omega)⟩)
   clear cq hset e hT hT1 XS HE RX hlt
   go_wp2_with fail
   go_roundw
   case rel => exact ⟨k + 1, X.set k (T.extract 0 1), hk1.out, by go_num, by rw [List.length_set]; exact XL.out, NS.out, HS.out, HX.out⟩
   case measure => have := hk1.out; simp [intOf]; omega
 case rest =>
 clear S1 HE MS ML
 obtain ⟨m, X, rfl, hm1, hm2, hX, hXs, hrow, he⟩ := hcut
 obtain ⟨wc, hwc⟩ := ext_name he
 subst hwc
 have hnw : inR (m : Int) 1 32 = true := by simp [inR]; omega
 have hXm : ∀ s ∈ X, s.size = (m : Int).toNat := fun s hs => by rw [hXs s hs]; rfl
 have XL := hU hX; have HE := hU he; have XS := hU hXs
 have SL : Hid (∀ W : World, Ext wc W → SlF AnyB sone 1 W (some ⟨q, 0, none⟩) X cv) := hU (fun W h => by
  have h2 := hrow.ext h
  rw [← XL.out] at h2
  exact (slf_at h2).any)
 obtain ⟨q', e, _, hqc, cq, _⟩ := RowT.put_at hrow hX (k := 0) hM0
 obtain rfl : q = q' := by cases e; rfl
 have CQ : Hid (∀ (k : Nat) (T : ByteArray) (W : World), Ext wc W → X[k]? = some T → W.cell? ⟨q, k, none⟩ = some (.string T)) := hU (fun k T W h hT => by
  have hk : k < LN := by rw [← XL.out]; exact (List.getElem?_eq_some_iff.1 hT).1
  obtain ⟨q', e, _, _, cq, _⟩ := RowT.put_at hrow XL.out (k := k) hk
  obtain rfl : q = q' := by cases e; rfl
  exact (h.cell (p := ⟨q, k, none⟩) hqc).trans (cq T hT))
 obtain ⟨R, hR⟩ : ∃ R, R = treeR (m : Int) X := ⟨_, rfl⟩
 have C1 := hU (fun (W : World) (h : Ext wc W) => specRootOf_good (m : Int) hnw X (some ⟨q, 0, none⟩) cv W (by omega) (SL.out W h) hXm)
 rw [XL.out, ← hR] at C1
 have C2 := hU (fun (W : World) (k : Nat) (hk : k < LN) (h : Ext wc W) => specInclusion_good (m : Int) hnw 512 X (some ⟨q, 0, none⟩) cv k W (by omega) (by omega) (by omega) (SL.out W h) hXm)
 rw [XL.out] at C2
 have C3 := hU (fun (k : Nat) (T : ByteArray) (hT : X[k]? = some T) => incl_good (w := (m : Int)) hnw (l := X) (k := k) (x := T) (by omega) hXm hT)
 rw [XL.out, ← hR] at C3
 have C4 := hU (fun (k : Nat) => inclN_size (wd := (m : Int)) hnw 512 X k hXm)
 have C5 := hU (fun (k : Nat) => inclN_len (m : Int) 512 X k)
 have NW := hU hnw
 have z0 : ((LN : Int) == 0) = false := beq_false_of_ne (by omega)
 clear hrow he hX hXs hXm hnw e cq hR hql
 go_upto_region 14 with fail
 go_wp2_with fail
 refine (DP.out _ HE.out).mono ?_
 rintro e w5 ⟨vp, xs, rfl, hxl, hxb, ho, h1⟩
 obtain ⟨VP, cp, rfl, _⟩ := ownsRow_form ho
 obtain ⟨bp, op, rfl, hbp, hcp⟩ := Reads.at_ (Reads.of_own ho) (k := 0) (by decide)
 have pc : ∀ (j : Nat) (x : Int), xs[j]? = some x → w5.cell? ⟨bp, op + j, none⟩ = some (.int .i64 x) := fun j x hx => by
  have := hcp j (.int .i64 x) (by simp [ivs, hx])
  simpa using this
 obtain ⟨x0, hx0⟩ : ∃ x, xs[0]? = some x := ⟨_, List.getElem?_eq_getElem (by omega)⟩
 obtain ⟨x1, hx1⟩ : ∃ x, xs[1]? = some x := ⟨_, List.getElem?_eq_getElem (by omega)⟩
 obtain ⟨x2, hx2⟩ : ∃ x, xs[2]? = some x := ⟨_, List.getElem?_eq_getElem (by omega)⟩
 have y0 := hxb x0 (List.mem_of_getElem? hx0); have y1 := hxb x1 (List.mem_of_getElem? hx1); have y2 := hxb x2 (List.mem_of_getElem? hx2)
 have p0 := pc 0 x0 hx0
 have P1 := hU (pc 1 x1 hx1); have P2 := hU (pc 2 x2 hx2)
 rw [Nat.add_zero] at p0
 obtain ⟨j0, rfl⟩ : ∃ u : Nat, x0 = (u : Int) := ⟨x0.toNat, by omega⟩
 obtain ⟨j1, rfl⟩ : ∃ u : Nat, x1 = (u : Int) := ⟨x1.toNat, by omega⟩
 obtain ⟨j2, rfl⟩ : ∃ u : Nat, x2 = (u : Int) := ⟨x2.toNat, by omega⟩
 have hu0 : j0 < 10000 := by omega
 have hu1 : j1 < 10000 := by omega
 have hu2 : j2 < 10000 := by omega
 have X5 := hU h1
 have hbp5 := hbp
 clear h1 hxl hxb ho hcp pc hx0 hx1 hx2 y0 y1 y2 DP
 obtain ⟨a, ha⟩ : ∃ a, a = j0 % LN := ⟨_, rfl⟩
 have haL : a < LN := by rw [ha]; exact Nat.mod_lt _ hM0
 go_upto_region 16 with fail
 have ha2 : (j0 : Int) % (LN : Int) = (a : Int) := by subst ha; rfl
 rw [ha2]
 clear ha2 ha p0 hu0 z0 hbp
 obtain ⟨T0, hT0⟩ : ∃ T, X[a]? = some T := ⟨_, List.getElem?_eq_getElem (by rw [XL.out]; exact haL)⟩
 have G1 := hU (C3.out a T0 hT0)
 have G2 := hU (fun (W : World) (h : Ext wc W) => CQ.out a T0 W h hT0)
 have T0s := hU (XS.out T0 (List.mem_of_getElem? hT0))
 obtain ⟨P, hP⟩ : ∃ P, P = inclN (m : Int) 512 X a := ⟨_, rfl⟩
 have G3 := hU (C4.out a); have G4 := hU (C5.out a)
 have G5 := hU (fun (W : World) (h : Ext wc W) => C2.out W a haL h)
 rw [← hP] at G1 G3 G4 G5
 obtain ⟨PN, hPN⟩ : ∃ PN, PN = P.length := ⟨_, rfl⟩
 have HPN := hU hPN.symm
 have hp5 : PN ≤ 512 := by rw [hPN]; exact G4.out
 have G3' : Hid (∀ s ∈ P, s.size = m) := hU (fun s hs => by rw [G3.out s hs]; rfl)
 clear hT0 hP hPN C2 C3 C4 C5 CQ XS G3 G4 SL
 go_wp2_with fail
 refine (C1.out _ X5.out).mono ?_
 rintro e w6 ⟨rfl, h1⟩
 replace X5 := hU (X5.out.next h1); replace P1 := hU ((h1.cell (p := ⟨bp, op + 1, none⟩) hbp5).trans P1.out); replace P2 := hU ((h1.cell (p := ⟨bp, op + 2, none⟩) hbp5).trans P2.out)
 have hbp6 := Nat.lt_of_lt_of_le hbp5 h1.size
 clear h1 C1 hbp5
 go_wp2_with fail
 refine (G5.out _ X5.out).mono ?_
 rintro e w7 ⟨v2, rfl, hv2, h1⟩
 obtain ⟨A2, c2, rfl, hc2⟩ := ownsRow_form hv2
 rw [HPN.out]
 have S2 := hU (show SlF AnyB sone 1 w7 A2 P c2 from (slf_at hv2).any)
 have hc2' : PN ≤ c2 := by rw [← HPN.out]; exact S2.out.le
 replace X5 := hU (X5.out.next h1); replace P1 := hU ((h1.cell (p := ⟨bp, op + 1, none⟩) hbp6).trans P1.out); replace P2 := hU ((h1.cell (p := ⟨bp, op + 2, none⟩) hbp6).trans P2.out)
 have hbp7 := Nat.lt_of_lt_of_le hbp6 h1.size
 clear h1 hv2 G5 hbp6
 have CK : Hid (∀ (T : ByteArray) (Q : List ByteArray) (B : Option Addr) (cc : Nat) (W : World), T.size = m → Q.length = PN → SlF AnyB sone 1 W B Q cc → Calls Try.prog 11 #[.int .i64 (m : Int), .string R, .int .i64 (LN : Int), .int .i64 (a : Int), .string T, .slice B PN cc] W fun e w' => e = .returned (.bool (checkIn (m : Int) R (LN : Int) (a : Int) T Q)) ∧ Ext W w') := hU (fun T Q B cc W h1 h2 h3 => by
  have h := CheckIn_any (m : Int) R (LN : Int) (a : Int) T B cc Q W (by rw [h1]; unfold maxLen; omega) h3.le (by omega) h3.reads
  rw [h2] at h
  exact h)
 have TI : Hid (∀ (T : ByteArray) (Q : List ByteArray) (B : Option Addr) (cc : Nat) (W : World), T.size = m → Q.length = PN → checkIn (m : Int) R (LN : Int) (a : Int) T Q = true → SlF AnyB sone 1 W B Q cc → Calls Try.prog 12 #[.int .i64 (m : Int), .int .i64 (LN : Int), .int .i64 (a : Int), .string T, .slice B PN cc] W fun e w' => ∃ v, e = .returned (.tuple #[v, .bool true]) ∧ RowT W.heap.size w' v (textsIn (m : Int) (LN : Int) (a : Int) T Q) ∧ Ext W w') := hU (fun T Q B cc W h1 h2 hc h3 => by
  have h := implTextsIn_any (m : Int) (LN : Int) (a : Int) T B cc Q W (by rw [h1]; unfold maxLen; omega) h3.le (by omega) h3.reads
  rw [h2, (check_way hc).1] at h
  exact h)
 have ME : Hid (∀ (T : ByteArray) (Q : List ByteArray) (K : Nat) (B : Option Addr) (cc : Nat) (W : World), checkIn (m : Int) R (LN : Int) (a : Int) T Q = true → ¬ (T0 = T ∧ P = Q) → W.ownsRow K 39 2 (.slice B (ndL (textsIn (m : Int) (LN : Int) (a : Int) T0 P) ++ ndL (textsIn (m : Int) (LN : Int) (a : Int) T Q)).length cc) (ndL (textsIn (m : Int) (LN : Int) (a : Int) T0 P) ++ ndL (textsIn (m : Int) (LN : Int) (a : Int) T Q)).length ((ndL (textsIn (m : Int) (LN : Int) (a : Int) T0 P) ++ ndL (textsIn (m : Int) (LN : Int) (a : Int) T Q)).flatMap PreD.cells) → Calls Try.prog 13 #[.int .i64 (m : Int), .slice B (ndL (textsIn (m : Int) (LN : Int) (a : Int) T0 P) ++ ndL (textsIn (m : Int) (LN : Int) (a : Int) T Q)).length cc] W fun e w' => ∃ (x y : PreD), e = .returned (.tuple #[.agg #[.int .i64 x.tag, .string x.text], .agg #[.int .i64 y.tag, .string y.text], .bool true]) ∧ (∀ W2 : World, Calls Try.prog 14 #[.int .i64 (m : Int), .agg #[.int .i64 x.tag, .string x.text], .agg #[.int .i64 y.tag, .string y.text]] W2 fun e w' => e = .returned (.bool true) ∧ Ext W2 w') ∧ Ext W w') := hU (fun T Q K B cc W h1 h2 h3 => by
  have hm := two_found G1.out h1 h2
  have hok : ∀ d ∈ ndL (textsIn (m : Int) (LN : Int) (a : Int) T0 P) ++ ndL (textsIn (m : Int) (LN : Int) (a : Int) T Q), d.Ok := fun d hd => by
   rcases List.mem_append.1 hd with h | h
   · exact ndL_ok d h
   · exact ndL_ok d h
  have hl : (ndL (textsIn (m : Int) (LN : Int) (a : Int) T0 P) ++ ndL (textsIn (m : Int) (LN : Int) (a : Int) T Q)).length ≤ 1048576 := by
   have := (textsIn_small (m : Int) (LN : Int) (a : Int) T0 P).1
   have := (textsIn_small (m : Int) (LN : Int) (a : Int) T Q).1
   simp [ndL]; omega
  generalize ndL (textsIn (m : Int) (LN : Int) (a : Int) T0 P) ++ ndL (textsIn (m : Int) (LN : Int) (a : Int) T Q) = Z at *
  have h := implMeet_any (m : Int) B cc Z W (slf_at h3).any.reads hok hl
  rw [hm] at h
  refine h.mono ?_
  rintro e w' ⟨he, hx⟩
  obtain ⟨a1, a2⟩ := meet_mem hm
  exact ⟨_, _, he, fun W2 => broken_yes (m : Int) _ _ W2 (hok _ a1) (hok _ a2) (meet_found hm), hx⟩)
 have CE := hU (fun (W : World) (h : Ext w7 W) => CK.out T0 P A2 c2 W T0s.out HPN.out (S2.out.ext h))
 rw [G1.out] at CE
 obtain ⟨wg, hwg⟩ : ∃ u, u = w7 := ⟨_, rfl⟩
 subst hwg
 go_upto_region 19 with fail
 have al : (a : Int) < (LN : Int) := by omega
 have a0 : ¬ (a : Int) < 0 := by omega
 have al2 : ¬ (LN : Int) ≤ (a : Int) := by omega
 go_loopw [13] (fun i wr => ∃ k : Nat, k ≤ 256 ∧ i = .int .i64 (k : Int) ∧ Ext wg wr) (fun i _ => 256 - (intOf i).toNat)
 case atStart => exact ⟨0, by decide, rfl, Below.refl _ _⟩
 case round => as_aux_lemma =>
  obtain ⟨k, hk, rfl, he⟩ := hrel
  have EX := hU he
  clear he
  have cq := G2.out _ (X5.out.next EX.out)
  by_cases hlt : k < 256
  case neg =>
   have hkl : ¬ (k : Int) < 256 := by omega
   clear hlt hk
   go_wp2_with fail
   refine (CE.out _ EX.out).mono ?_
   rintro e wh ⟨rfl, h1⟩
   go_wp2_with fail
   go_ret
   exact ⟨rfl, HE.out.next ((X5.out.next EX.out).next h1)⟩
  clear CE
  have hkl : (k : Int) < 256 := by omega
  have HK1 := hU (show k + 1 ≤ 256 from hlt)
  have E1 := hU (Ext.new (Below.refl wr.heap.size wr) (.cells #[] 9)); have K1 := hU (Blk.new wr 9 #[])
  have XX : Hid (SrcL (wr.alloc (.cells #[] 9)) (.slice A2 PN c2) PN 1 (P.flatMap sone)) := hU (by
   have h := srcT_ext (srcT_reads (c := c2) (S2.out.ext EX.out).reads) E1.out rfl
   rw [HPN.out] at h
   exact h)
  clear hlt hk
  go_upto_region 24 with (at_builtin; refine wpList_append_empty rfl _ _ 24 rfl wr.heap.size wr.heap.size 9 iS (.string ⟨#[]⟩) 1 16 Try.underlying24 hSi hS0 hS1 hS2 rfl (by decide) rfl K1.out (Nat.le_refl _) _ PN (P.flatMap sone) rfl XX.out (sone_one _) (by unfold maxLen; omega) (by omega) ?_)
  intro v' w3 hb4 h1
  obtain ⟨V3, c3, rfl, _⟩ := ownsRow_form hb4
  have RO := hU (show RowT wr.heap.size w3 (.slice V3 PN c3) P by rw [RowT, HPN.out]; exact hb4)
  have E3 := hU (E1.out.next h1)
  clear E1 K1 XX h1 hb4 cq
  go_upto_region 24 with fail
  go_cut [107] from 98 to 107 (fun u wx => ∃ b : Bool, u = .bool b ∧ (b = true → 0 < PN) ∧ w3 = wx)
  case first => as_aux_lemma =>
   by_cases hp0 : 0 < PN
   · have z1 : (PN : Int) > 0 := by omega
     have p1 := ((EX.out.next E3.out).cell (p := ⟨bp, op + 1, none⟩) hbp7).trans P1.out
     by_cases h2 : (j1 : Int) % 2 = 0
     · have z2 : ((j1 : Int) % 2 == 0) = true := beq_iff_eq.2 h2
       clear h2
       go_wp2_with fail
       go_meet
       case rel => exact ⟨_, rfl, fun _ => hp0, rfl⟩
     · have z2 : ((j1 : Int) % 2 == 0) = false := beq_false_of_ne h2
       clear h2
       go_wp2_with fail
       go_meet
       case rel => exact ⟨_, rfl, fun _ => hp0, rfl⟩
   · have z1 : ¬ (PN : Int) > 0 := by omega
     go_wp2_with fail
     go_meet
     case rel => exact ⟨_, rfl, (fun h => by cases h), rfl⟩
  case rest =>
  obtain ⟨cb, rfl, hcb, rfl⟩ := hcut
  have HCB := hU hcb
  clear hcb
  go_upto_if 107 with fail
  obtain ⟨FB, hFB⟩ : ∃ FB, FB = ofInts [(k : Int)] := ⟨_, rfl⟩
  have F1 := hU (show FB.size = 1 by rw [hFB]; rfl)
  have HC : Hid (∀ W : World, (convert 22 9 (.slice (some ⟨W.heap.size, 0, none⟩) 1 1)).run Try.prog (W.alloc (.cells #[.int .u8 (k : Int)] 5)) = .ok (.string FB) (W.alloc (.cells #[.int .u8 (k : Int)] 5))) := hU (fun W => by
   have h := conv_bytes [(k : Int)] (by intro x hx; simp only [List.mem_singleton] at hx; subst hx; omega) W
   rw [hFB]; exact h)
  clear hFB
  go_cut [15] (fun u wx => ∃ (T : ByteArray) (Q : List ByteArray), u = .string T ∧ T.size = m ∧ Q.length = PN ∧ RowT wr.heap.size wx (.slice V3 PN c3) Q ∧ Ext wr wx)
  case first => as_aux_lemma =>
   cases cb
   case true =>
    have hp0 := HCB.out rfl
    have p2 := ((EX.out.next E3.out).cell (p := ⟨bp, op + 2, none⟩) hbp7).trans P2.out
    obtain ⟨k2, hk2⟩ : ∃ k2, k2 = j2 % PN := ⟨_, rfl⟩
    have hk3 : k2 < PN := by rw [hk2]; exact Nat.mod_lt _ hp0
    have hk4 : (j2 : Int) % (PN : Int) = (k2 : Int) := by subst hk2; rfl
    have z3 : ((PN : Int) == 0) = false := beq_false_of_ne (by omega)
    have HK4 := hU hk4
    clear hk2 hk4
    go_upto_region 26 with fail
    rw [HK4.out]
    clear HK4 p2 z3
    obtain ⟨p, rfl, hpw, hpl, cq, fq, hset⟩ := RowT.put_at RO.out HPN.out (k := k2) hk3
    obtain ⟨Tk, hTk⟩ : ∃ T, P[k2]? = some T := ⟨_, List.getElem?_eq_getElem (by rw [HPN.out]; exact hk3)⟩
    have CT := hU (cq Tk hTk)
    have hTks := hU (G3'.out Tk (List.mem_of_getElem? hTk))
    have e1 : (Tk.extract 1 Tk.size).size = m - 1 := by have := hTks.out; rw [ByteArray.size_extract]; omega
    have hcat : ¬ 9223372036854775807 < FB.size + (Tk.extract 1 Tk.size).size := by rw [F1.out, e1]; omega
    have hsT : ¬ (Tk.size : Int) < 1 := by have := hTks.out; omega
    have hsT2 : ¬ Tk.size < 1 := by omega
    have kl : (k2 : Int) < (PN : Int) := by omega
    have kl2 : ¬ (PN : Int) ≤ (k2 : Int) := by omega
    have kl0 : ¬ (k2 : Int) < 0 := by omega
    have HW := hU (show (FB ++ Tk.extract 1 Tk.size).size = m by rw [ByteArray.size_append, F1.out, e1]; omega)
    clear cq hTk e1
    have cT := CT.out
    have hcat2 : FB.size + (Tk.size - 1) ≤ 9223372036854775807 := by rw [F1.out]; have := hTks.out; omega
    have NR := hU (hset (FB ++ Tk.extract 1 Tk.size))
    clear hset
    have hconv0 : (convert 22 9 (.slice (some ⟨w3.heap.size, 0, none⟩) 1 1)).run Try.prog (w3.alloc (.cells #[.int .u8 (k : Int)] 5)) = .ok (.string FB) (w3.alloc (.cells #[.int .u8 (k : Int)] 5)) := HC.out w3
    have hconv1 : (convert 22 9 (.slice (some ⟨w3.heap.size, 0, none⟩) 1 1)).run Try.prog (w3.alloc (.cells #[.int .u8 (k : Int)] 5)).drew = .ok (.string FB) (w3.alloc (.cells #[.int .u8 (k : Int)] 5)).drew := HC.out w3.drew
    have hconv2 : (convert 22 9 (.slice (some ⟨w3.heap.size, 0, none⟩) 1 1)).run Try.prog (w3.alloc (.cells #[.int .u8 (k : Int)] 5)).drew.drew = .ok (.string FB) (w3.alloc (.cells #[.int .u8 (k : Int)] 5)).drew.drew := HC.out w3.drew.drew
    have hconv3 : (convert 22 9 (.slice (some ⟨w3.heap.size, 0, none⟩) 1 1)).run Try.prog (w3.alloc (.cells #[.int .u8 (k : Int)] 5)).drew.drew.drew = .ok (.string FB) (w3.alloc (.cells #[.int .u8 (k : Int)] 5)).drew.drew.drew := HC.out w3.drew.drew.drew
    have hconv4 : (convert 22 9 (.slice (some ⟨w3.heap.size, 0, none⟩) 1 1)).run Try.prog (w3.alloc (.cells #[.int .u8 (k : Int)] 5)).drew.drew.drew.drew = .ok (.string FB) (w3.alloc (.cells #[.int .u8 (k : Int)] 5)).drew.drew.drew.drew := HC.out w3.drew.drew.drew.drew
    have hconv5 : (convert 22 9 (.slice (some ⟨w3.heap.size, 0, none⟩) 1 1)).run Try.prog (w3.alloc (.cells #[.int .u8 (k : Int)] 5)).drew.drew.drew.drew.drew = .ok (.string FB) (w3.alloc (.cells #[.int .u8 (k : Int)] 5)).drew.drew.drew.drew.drew := HC.out w3.drew.drew.drew.drew.drew
    have hconv6 : (convert 22 9 (.slice (some ⟨w3.heap.size, 0, none⟩) 1 1)).run Try.prog (w3.alloc (.cells #[.int .u8 (k : Int)] 5)).drew.drew.drew.drew.drew.drew = .ok (.string FB) (w3.alloc (.cells #[.int .u8 (k : Int)] 5)).drew.drew.drew.drew.drew.drew := HC.out w3.drew.drew.drew.drew.drew.drew
    have hconv7 : (convert 22 9 (.slice (some ⟨w3.heap.size, 0, none⟩) 1 1)).run Try.prog (w3.alloc (.cells #[.int .u8 (k : Int)] 5)).drew.drew.drew.drew.drew.drew.drew = .ok (.string FB) (w3.alloc (.cells #[.int .u8 (k : Int)] 5)).drew.drew.drew.drew.drew.drew.drew := HC.out w3.drew.drew.drew.drew.drew.drew.drew
    go_region
    have NX := hU (show Ext wr (w3.setCell ⟨p, k2, none⟩ (.string (FB ++ Tk.extract 1 Tk.size))) from Below.setCell E3.out (p := ⟨p, k2, none⟩) (by show wr.heap.size ≤ p; exact hpw) _)
    have AX := hU ((Ext.new (Below.refl (w3.setCell ⟨p, k2, none⟩ (.string (FB ++ Tk.extract 1 Tk.size))).heap.size (w3.setCell ⟨p, k2, none⟩ (.string (FB ++ Tk.extract 1 Tk.size)))) (.cells #[.int .u8 (k : Int)] 5)).drew)
    have NL := hU (show (P.set k2 (FB ++ Tk.extract 1 Tk.size)).length = PN by rw [List.length_set]; exact HPN.out)
    clear hconv0 hconv1 hconv2 hconv3 hconv4 hconv5 hconv6 hconv7 cT fq
    go_wp2_with fail
    go_meet
    case rel => exact ⟨T0, P.set k2 (FB ++ Tk.extract 1 Tk.size), rfl, T0s.out, NL.out, NR.out.ext AX.out, NX.out.next AX.out⟩
   case false =>
    have hcat2 : FB.size + (T0.size - 1) ≤ 9223372036854775807 := by rw [F1.out]; have := T0s.out; omega
    have e1 : (T0.extract 1 T0.size).size = m - 1 := by have := T0s.out; rw [ByteArray.size_extract]; omega
    have hcat : ¬ 9223372036854775807 < FB.size + (T0.extract 1 T0.size).size := by rw [F1.out, e1]; omega
    have hsT : ¬ (T0.size : Int) < 1 := by have := T0s.out; omega
    have hsT2 : ¬ T0.size < 1 := by omega
    have HW := hU (show (FB ++ T0.extract 1 T0.size).size = m by rw [ByteArray.size_append, F1.out, e1]; omega)
    clear e1
    go_upto_region 27 with fail
    refine wp_region_held_drew (S := fun w' => Ext w3 w') (by kernel_rfl) (Below.refl _ _).drew (fun hH => ?_)
    generalize w3.drew = wd at *
    refine takeQ 0 (.int .u8 (k : Int)) (some 126) rfl rfl (by kernel_rfl) (Or.inl ⟨by rfl, ?yb1⟩) hH ?rb1
    case yb1 => intro w' hS'; go_simp; try with_reducible rfl
    try simp only [zA]
    refine takeQ 3 (.string T0) (some 129) rfl rfl (by kernel_rfl) (Or.inl ⟨by rfl, ?yb2⟩) hH ?rb2
    case yb2 => intro w' hS'; go_simp; try with_reducible rfl
    try simp only [zA]
    refine takeQ 4 (.string (T0.extract 1 T0.size)) (some 130) rfl rfl (by kernel_rfl) (Or.inl ⟨by rfl, ?yb3⟩) hH ?rb3
    case yb3 => intro w' hS'; go_simp; try with_reducible rfl
    try simp only [zA]
    refine oneH 1 (oi := _) (some 127) (by kernel_rfl) rfl rfl rfl (fun K' hK => ?_)
    refine ⟨?_⟩; rw [if_pos (by rfl)]
    go_simp
    have h1 := Ext.new (Below.refl wd.heap.size wd) (.cells #[.int .u8 (k : Int)] 5)
    have hconv := HC.out wd
    refine hK.out _ _ ⟨_, rfl⟩ (hH.next h1) (fun hH2 => ?_)
    clear hK K' hH h1
    have hH := hH2
    clear hH2
    try simp only [zB]
    refine oneH 2 (oi := _) (some 128) (by kernel_rfl) rfl rfl rfl (fun K' hK => ?_)
    refine ⟨?_⟩; rw [if_pos (by rfl)]
    go_simp
    refine hK.out _ _ ⟨_, rfl⟩ (hH) (fun hH2 => ?_)
    clear hK K' hconv
    have hH := hH2
    clear hH2
    try simp only [zB]
    generalize wd.alloc (.cells #[.int .u8 (k : Int)] 5) = we at *
    refine takeQ 5 (.string (FB ++ T0.extract 1 T0.size)) (some 131) rfl rfl (by kernel_rfl) (Or.inl ⟨by rfl, ?yb4⟩) hH ?rb4
    case yb4 => intro w' hS'; go_simp; try with_reducible rfl
    try simp only [zA]
    refine takeQ 6 (.string (FB ++ T0.extract 1 T0.size)) (some 15) rfl rfl (by kernel_rfl) (Or.inl ⟨by rfl, ?yb5⟩) hH ?rb5
    case yb5 => intro w' hS'; go_simp; try with_reducible rfl
    try simp only [zA]
    have NR := hU (RO.out.ext hH); have NX := hU (E3.out.next hH)
    clear hH
    refine wpAnyH_done (by kernel_rfl) ?_ _
    go_wp2_with fail
    go_meet
    case rel => exact ⟨_, P, rfl, HW.out, HPN.out, NR.out, NX.out⟩
  case rest =>
  clear RO E3 HCB HC F1
  obtain ⟨T, Q, rfl, hT, hQ, hrow, he⟩ := hcut
  obtain ⟨wd, hwd⟩ := ext_name he
  subst hwd
  have QL := hU hQ; have TL := hU hT; have ER := hU he
  have SQ : Hid (∀ W : World, Ext wd W → SlF AnyB sone 1 W V3 Q c3) := hU (fun W h => by
   have h2 := hrow.ext h
   rw [← QL.out] at h2
   exact (slf_at h2).any)
  clear hrow he hQ hT
  obtain ⟨qp, hqp⟩ : ∃ qp, qp = decide (Q = P) := ⟨_, rfl⟩
  have ST := hU (fun (W : World) (h : Ext wd W) => sameTexts_any V3 A2 c3 c2 Q P W (SQ.out W h) (S2.out.ext ((EX.out.next ER.out).next h)) (by rw [QL.out, HPN.out]) (by rw [QL.out]; omega))
  rw [QL.out, HPN.out, ← hqp] at ST
  obtain ⟨ci, hci⟩ : ∃ ci, ci = checkIn (m : Int) R (LN : Int) (a : Int) T Q := ⟨_, rfl⟩
  have CKQ := hU (fun (W : World) (h : Ext wd W) => CK.out T Q V3 c3 W TL.out QL.out (SQ.out W h))
  rw [← hci] at CKQ
  obtain ⟨sk, hsk⟩ : ∃ sk, sk = (decide (T = T0) && qp || !ci) := ⟨_, rfl⟩
  have HSK := hU hsk; have HCI := hU hci; have HQP := hU hqp
  clear hsk hci hqp
  have cq := G2.out _ (X5.out.next (EX.out.next ER.out))
  go_upto_region 28 with fail
  go_cut [152] from 132 to 152 (fun u wx => u = .bool sk ∧ Ext wd wx)
  case first => as_aux_lemma =>
   by_cases hTT : T = T0
   · have q1 : (T.toList == T0.toList) = true := by rw [hTT]; simp
     have E0 := hU (show sk = (qp || !ci) by rw [HSK.out, decide_eq_true hTT, Bool.true_and])
     clear hTT
     go_wp2_with fail
     refine (ST.out _ (Below.refl _ _)).mono ?_
     rintro e we ⟨rfl, h1⟩
     cases qp
     · have E := hU (show sk = !ci by rw [E0.out, Bool.false_or])
       go_wp2_with fail
       refine (CKQ.out _ h1).mono ?_
       rintro e wf ⟨rfl, h2⟩
       go_wp2_with fail
       go_meet
       case rel => exact ⟨by rw [E.out], h1.next h2⟩
     · have E := hU (show sk = true by rw [E0.out, Bool.true_or])
       go_wp2_with fail
       go_meet
       case rel => exact ⟨by rw [E.out], h1⟩
   · have q1 : (T.toList == T0.toList) = false := by simp [bytes_eq_iff, hTT]
     have E := hU (show sk = !ci by rw [HSK.out, decide_eq_false hTT, Bool.false_and, Bool.false_or])
     clear hTT
     go_wp2_with fail
     refine (CKQ.out _ (Below.refl _ _)).mono ?_
     rintro e wf ⟨rfl, h2⟩
     go_wp2_with fail
     go_meet
     case rel => exact ⟨by rw [E.out], h2⟩
  case rest =>
  obtain ⟨rfl, h1⟩ := hcut
  obtain ⟨we, hwe⟩ := ext_name h1
  subst hwe
  have EE := hU ((EX.out.next ER.out).next h1)
  have EQ := hU h1
  clear h1 ST CKQ cq
  go_upto_if 152 with fail
  cases hsk2 : sk
  case true =>
   subst hsk2
   go_wp2_with fail
   go_roundw
   case rel => exact ⟨k + 1, HK1.out, by go_num, EE.out⟩
   case measure => have := HK1.out; simp [intOf]; omega
  case false =>
  have hsk3 := HSK.out
  rw [hsk2] at hsk3
  have hci : ci = true := by
   cases ci
   · simp at hsk3
   · rfl
  have HC1 := hU (show checkIn (m : Int) R (LN : Int) (a : Int) T Q = true by rw [← HCI.out]; exact hci)
  have HNE := hU (show ¬ (T0 = T ∧ P = Q) from fun ⟨e1, e2⟩ => by
   rw [decide_eq_true e1.symm, HQP.out, decide_eq_true e2.symm] at hsk3
   simp at hsk3)
  subst hsk2
  clear hsk3 hci HSK HCI HQP
  have cq := G2.out _ (X5.out.next EE.out)
  obtain ⟨TA, hTA⟩ : ∃ TA, TA = textsIn (m : Int) (LN : Int) (a : Int) T0 P := ⟨_, rfl⟩
  obtain ⟨TB, hTB⟩ : ∃ TB, TB = textsIn (m : Int) (LN : Int) (a : Int) T Q := ⟨_, rfl⟩
  have TIA := hU (TI.out T0 P A2 c2 _ T0s.out HPN.out G1.out (S2.out.ext EE.out))
  have TIB := hU (fun (W : World) (h : Ext we W) => TI.out T Q V3 c3 W TL.out QL.out HC1.out (SQ.out W (EQ.out.next h)))
  have MM := hU (fun (K : Nat) (B : Option Addr) (cc : Nat) (W : World) => ME.out T Q K B cc W HC1.out HNE.out)
  rw [← hTA] at TIA MM
  rw [← hTB] at TIB MM
  obtain ⟨NA, hNA⟩ : ∃ NA, NA = TA.length := ⟨_, rfl⟩
  obtain ⟨NB, hNB⟩ : ∃ NB, NB = TB.length := ⟨_, rfl⟩
  have NA5 : NA ≤ 512 := by rw [hNA, hTA]; exact (textsIn_small _ _ _ _ _).1
  have NB5 : NB ≤ 512 := by rw [hNB, hTB]; exact (textsIn_small _ _ _ _ _).1
  have NAL := hU hNA.symm; have NBL := hU hNB.symm
  clear hTA hTB hNA hNB TI ME CK HC1 HNE SQ S2
  go_wp2_with fail
  refine TIA.out.mono ?_
  rintro e wf ⟨va, rfl, hva, h1⟩
  obtain ⟨VA, ca, rfl, _⟩ := ownsRow_form hva
  rw [NAL.out]
  have RA := hU (show RowT we.heap.size wf (.slice VA NA ca) TA by rw [← NAL.out]; exact hva)
  have EF := hU h1
  clear hva h1 cq TIA
  go_wp2_with fail
  refine (TIB.out _ EF.out).mono ?_
  rintro e wz ⟨vb, rfl, hvb, h1⟩
  obtain ⟨VB, cb2, rfl, _⟩ := ownsRow_form hvb
  rw [NBL.out]
  have CA : Hid (∀ (j : Nat) (t : ByteArray) (W : World), Ext wz W → TA[j]? = some t → ∃ qt, VA = some ⟨qt, 0, none⟩ ∧ W.cell? ⟨qt, j, none⟩ = some (.string t)) := hU (fun j t W h ht => by
   obtain ⟨qt, e, _, hl, cq, _⟩ := RowT.put_at (RA.out.ext h1) NAL.out (k := j) (by rw [← NAL.out]; exact (List.getElem?_eq_some_iff.1 ht).1)
   exact ⟨qt, e, (h.cell (p := ⟨qt, j, none⟩) hl).trans (cq t ht)⟩)
  have CB : Hid (∀ (j : Nat) (t : ByteArray) (W : World), Ext wz W → TB[j]? = some t → ∃ qt, VB = some ⟨qt, 0, none⟩ ∧ W.cell? ⟨qt, j, none⟩ = some (.string t)) := hU (fun j t W h ht => by
   obtain ⟨qt, e, _, hl, cq, _⟩ := RowT.put_at (show RowT wf.heap.size wz (.slice VB NB cb2) TB by rw [← NBL.out]; exact hvb) NBL.out (k := j) (by rw [← NBL.out]; exact (List.getElem?_eq_some_iff.1 ht).1)
   exact ⟨qt, e, (h.cell (p := ⟨qt, j, none⟩) hl).trans (cq t ht)⟩)
  replace EE := hU (EE.out.next (EF.out.next h1))
  have hz0 := h1.size
  clear hvb h1 RA EF TIB
  have O0 := hU (show (wz.alloc (.cells #[] 39)).ownsRow wz.heap.size 39 2 (.slice (some ⟨wz.heap.size, 0, none⟩) 0 0) 0 (([] : List PreD).flatMap PreD.cells) from ownsRow_empty wz 39 2)
  have X0 := hU (Ext.new (Below.refl wz.heap.size wz) (.cells #[] 39))
  go_upto_region 33 with fail
  obtain ⟨K9, hK9⟩ : ∃ K9, K9 = wz.heap.size := ⟨_, rfl⟩
  have HK9 := hU hK9
  rw [← hK9] at O0
  rw [← hK9]
  clear hK9 hz0
  obtain ⟨ZN, hZN⟩ : ∃ ZN, ZN = ([] : List PreD) := ⟨_, rfl⟩
  have HZN := hU hZN
  have X9 : ZN.length ≤ 1000 := by rw [hZN]; decide
  clear hZN
  go_loopw [22, 23] (fun v x wl => ∃ (j n9 : Nat), j ≤ NA ∧ x = .int .i64 (j : Int) ∧ n9 = (ZN ++ ndL (TA.take j)).length ∧ wl.ownsRow K9 39 2 v n9 ((ZN ++ ndL (TA.take j)).flatMap PreD.cells) ∧ Ext wz wl) (fun _ x _ => NA - (intOf x).toNat)
  case atStart => exact ⟨0, 0, Nat.zero_le _, rfl, by rw [HZN.out]; simp [ndL], by rw [HZN.out]; simpa [ndL] using O0.out, X0.out⟩
  case round => as_aux_lemma =>
   clear O0 X0
   obtain ⟨j, n9, hj, rfl, hn9, hown, hex⟩ := hrel
   obtain ⟨Z, cz, rfl, _⟩ := ownsRow_form hown
   have KO := hU hown; have EL := hU hex; have N9 := hU hn9
   clear hown hex hn9
   by_cases hjl : j < NA
   case pos => as_aux_lemma =>
    have HJ := hU (show j + 1 ≤ NA from hjl)
    obtain ⟨t, ht⟩ : ∃ t, TA[j]? = some t := ⟨_, List.getElem?_eq_getElem (by rw [NAL.out]; exact hjl)⟩
    obtain ⟨qt, eq1, c0⟩ := CA.out j t wr EL.out ht
    subst eq1
    have jj : (j : Int) < (NA : Int) := by omega
    have jj2 : ¬ (NA : Int) ≤ (j : Int) := by omega
    have j0 : ¬ (j : Int) < 0 := by omega
    have E := hU (ndL_next ht ZN)
    have EN := hU (show n9 + 1 = (ZN ++ ndL (TA.take (j + 1))).length by
     have h1 := (List.getElem?_eq_some_iff.1 ht).1
     rw [N9.out]
     simp only [List.length_append, ndL, List.length_map, List.length_take]; omega)
    have hul : n9 ≤ 2000 := by
     have := NA5; have := X9; have := N9.out
     simp only [List.length_append, ndL, List.length_map, List.length_take] at *; omega
    have hs9 := EL.out.size
    have hj2 : j ≤ 600 := by have := NA5; omega
    obtain ⟨CX, hCX⟩ : ∃ CX, CX = (ZN ++ ndL (TA.take j)).flatMap PreD.cells := ⟨_, rfl⟩
    rw [← hCX] at KO E
    clear hCX
    clear ht hj hjl N9
    go_wp2_with (at_builtin; refine wpList_append_own _ rfl _ _ 37 rfl K9 39 iP (.agg #[.int .i64 0, .string ⟨#[]⟩]) 2 24 Try.underlying37 hPi hP0 hP1 hP2 rfl (by decide) _ _ _ rfl (KO.out.alloc _) ⟨wr.heap.size, 0, none⟩ 1 1 [.int .i64 1, .string t] rfl rfl ?c11 ?c21 ?c31 ?c41 ?c51 ?_)
    case c21 => exact ⟨rfl, rfl⟩
    case c31 => unfold maxLen; omega
    case c41 => omega
    case c51 => have := HK9.out; simp; omega
    intro v' w9' hown' hgrow _
    have he1 := hU (Ext.ownGrown (Ext.new EL.out _) (KO.out.alloc _) hgrow (by rw [HK9.out]; exact Nat.le_refl _))
    rw [E.out] at hown'
    have KO' := hU hown'
    clear hown' hgrow KO EL c0
    go_wp2_with fail
    go_roundw
    case rel => exact ⟨j + 1, n9 + 1, HJ.out, by go_num, EN.out, KO'.out, he1.out⟩
    case measure => have := HJ.out; simp [intOf]; omega
   have jj : ¬ (j : Int) < (NA : Int) := by omega
   obtain rfl : NA = j := by omega
   have TK := hU (show TA.take NA = TA from List.take_of_length_le (by rw [NAL.out]; exact Nat.le_refl _))
   have O1 := hU (show wr.ownsRow K9 39 2 (.slice Z n9 cz) n9 ((ZN ++ ndL TA).flatMap PreD.cells) by have := KO.out; rw [TK.out] at this; exact this)
   have N8 := hU (show n9 = (ZN ++ ndL TA).length by have := N9.out; rw [TK.out] at this; exact this)
   clear KO hj N9 TK
   have XA : (ndL TA).length ≤ 1000 := by have := NAL.out; simp only [ndL, List.length_map]; omega
   have OA := hU (show wr.ownsRow K9 39 2 (.slice Z n9 cz) n9 ((ndL TA ++ ndL (TB.take 0)).flatMap PreD.cells) by have := O1.out; rw [HZN.out] at this; simpa [ndL] using this)
   have NA9 := hU (show n9 = (ndL TA ++ ndL (TB.take 0)).length by have := N8.out; rw [HZN.out] at this; simpa [ndL] using this)
   clear O1 N8 X9
   have X9 := XA
   clear XA
   go_upto_region 37 with fail
   go_loopw [22, 24] (fun v x wl => ∃ (j n9 : Nat), j ≤ NB ∧ x = .int .i64 (j : Int) ∧ n9 = (ndL TA ++ ndL (TB.take j)).length ∧ wl.ownsRow K9 39 2 v n9 ((ndL TA ++ ndL (TB.take j)).flatMap PreD.cells) ∧ Ext wz wl) (fun _ x _ => NB - (intOf x).toNat)
   case atStart => exact ⟨0, n9, Nat.zero_le _, rfl, NA9.out, OA.out, EL.out⟩
   case round => as_aux_lemma =>
    clear OA EL NA9
    obtain ⟨j, n9, hj, rfl, hn9, hown, hex⟩ := hrel
    obtain ⟨Z, cz, rfl, _⟩ := ownsRow_form hown
    have KO := hU hown; have EL := hU hex; have N9 := hU hn9
    clear hown hex hn9
    by_cases hjl : j < NB
    case pos => as_aux_lemma =>
     have HJ := hU (show j + 1 ≤ NB from hjl)
     obtain ⟨t, ht⟩ : ∃ t, TB[j]? = some t := ⟨_, List.getElem?_eq_getElem (by rw [NBL.out]; exact hjl)⟩
     obtain ⟨qt, eq1, c0⟩ := CB.out j t wr EL.out ht
     subst eq1
     have jj : (j : Int) < (NB : Int) := by omega
     have jj2 : ¬ (NB : Int) ≤ (j : Int) := by omega
     have j0 : ¬ (j : Int) < 0 := by omega
     have E := hU (ndL_next ht (ndL TA))
     have EN := hU (show n9 + 1 = (ndL TA ++ ndL (TB.take (j + 1))).length by
      have h1 := (List.getElem?_eq_some_iff.1 ht).1
      rw [N9.out]
      simp only [List.length_append, ndL, List.length_map, List.length_take]; omega)
     have hul : n9 ≤ 2000 := by
      have := NB5; have := X9; have := N9.out
      simp only [List.length_append, ndL, List.length_map, List.length_take] at *; omega
     have hs9 := EL.out.size
     have hj2 : j ≤ 600 := by have := NB5; omega
     obtain ⟨CX, hCX⟩ : ∃ CX, CX = (ndL TA ++ ndL (TB.take j)).flatMap PreD.cells := ⟨_, rfl⟩
     rw [← hCX] at KO E
     clear hCX
     clear ht hj hjl N9
     go_wp2_with (at_builtin; refine wpList_append_own _ rfl _ _ 37 rfl K9 39 iP (.agg #[.int .i64 0, .string ⟨#[]⟩]) 2 24 Try.underlying37 hPi hP0 hP1 hP2 rfl (by decide) _ _ _ rfl (KO.out.alloc _) ⟨wr.heap.size, 0, none⟩ 1 1 [.int .i64 1, .string t] rfl rfl ?c12 ?c22 ?c32 ?c42 ?c52 ?_)
     case c22 => exact ⟨rfl, rfl⟩
     case c32 => unfold maxLen; omega
     case c42 => omega
     case c52 => have := HK9.out; simp; omega
     intro v' w9' hown' hgrow _
     have he1 := hU (Ext.ownGrown (Ext.new EL.out _) (KO.out.alloc _) hgrow (by rw [HK9.out]; exact Nat.le_refl _))
     rw [E.out] at hown'
     have KO' := hU hown'
     clear hown' hgrow KO EL c0
     go_wp2_with fail
     go_roundw
     case rel => exact ⟨j + 1, n9 + 1, HJ.out, by go_num, EN.out, KO'.out, he1.out⟩
     case measure => have := HJ.out; simp [intOf]; omega
    have jj : ¬ (j : Int) < (NB : Int) := by omega
    obtain rfl : NB = j := by omega
    have TK := hU (show TB.take NB = TB from List.take_of_length_le (by rw [NBL.out]; exact Nat.le_refl _))
    have O1 := hU (show wr.ownsRow K9 39 2 (.slice Z n9 cz) n9 ((ndL TA ++ ndL TB).flatMap PreD.cells) by have := KO.out; rw [TK.out] at this; exact this)
    have N8 := hU (show n9 = (ndL TA ++ ndL TB).length by have := N9.out; rw [TK.out] at this; exact this)
    clear KO hj N9 TK
    have hn9 := N8.out
    have hm9 := O1.out
    rw [hn9] at hm9
    have MQ := hU (MM.out K9 Z cz wr hm9)
    rw [← hn9] at MQ
    clear hn9 hm9 O1 N8 MM
    go_wp2_with fail
    refine MQ.out.mono ?_
    rintro e wm ⟨x, y, rfl, hbr, h1⟩
    obtain ⟨B0, B1, hx2⟩ := two_blks wm #[.int .i64 x.tag, .string x.text] #[.int .i64 y.tag, .string y.text] 39 39
    obtain ⟨r1, r2⟩ := B0.rules
    obtain ⟨r3, r4⟩ := B1.rules
    have HB := hU hbr
    have EM := hU (EE.out.next ((EL.out.next h1).next hx2))
    clear h1 hx2 B0 B1 MQ EL hbr
    go_wp2_with fail
    refine (HB.out _).mono ?_
    rintro e wn ⟨rfl, h2⟩
    clear r1 r2 r3 r4
    go_wp2_with fail
    go_roundw
    case rel => exact ⟨k + 1, HK1.out, by go_num, EM.out.next h2⟩
    case measure => have := HK1.out; simp [intOf]; omega
end Go.Proofs.Ytgeengkdgdjcjaa
