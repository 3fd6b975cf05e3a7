/-
  PresOf: walks. Written by program (gen_pres.py). No condition.
-/
import Derived.Test.YtichegndafnjeaaGreatItemIn
import Derived.Test.YtichegndafnjeaaGreatPresImpl
namespace Go.Proofs.YtichegndafnjeaaGreat
open Go.RowKit
set_option linter.unusedVariables false

set_option maxHeartbeats 4000000 in
set_option maxRecDepth 100000 in
theorem specPresOf_any (n : Int) (d : ItemD) (A0 : Option Addr) (c0 : Nat) (A1 : Option Addr) (c1 : Nat) (w : World) (hok : d.Ok) (s0 : SlF AnyB sone 1 w A0 d.proof c0) (s1 : SlF AnyB sone 1 w A1 d.more c1) (hf : ∀ n ∈ d.lens, n ≤ 1048576) :
    Calls Tryz.prog 13 #[.int .i64 n, .agg #[.int .i64 d.kind, .int .i64 d.old.number, .int .i64 d.old.size, .string d.old.root, .int .i64 d.old.taken, .string d.old.takenRoot, .int .i64 d.head.number, .int .i64 d.head.size, .string d.head.root, .int .i64 d.head.taken, .string d.head.takenRoot, .int .i64 d.leaf, .string d.entry.topic, .int .i64 d.entry.index, .int .i64 d.entry.time, .string d.entry.key, .string d.entry.body, .string d.receipt.reader, .string d.receipt.topic, .int .i64 d.receipt.index, .slice A0 d.proof.length c0, .slice A1 d.more.length c1]] w fun e w' => ∃ v, e = .returned (.tuple #[v, .bool (itemOk n d)]) ∧ OwnP w w' v (presOf n d) ∧ Ext w w' := by
  obtain ⟨i0, hi, hz0, hz1, hz2⟩ := info_parts info_pre
  have l0 : d.proof.length ≤ 1048576 := hf _ (by simp [ItemD.lens])
  have l1 : d.more.length ≤ 1048576 := hf _ (by simp [ItemD.lens])
  have K0 := (Blk.new w 50 #[.int .i64 d.kind, .int .i64 d.old.number, .int .i64 d.old.size, .string d.old.root, .int .i64 d.old.taken, .string d.old.takenRoot, .int .i64 d.head.number, .int .i64 d.head.size, .string d.head.root, .int .i64 d.head.taken, .string d.head.takenRoot, .int .i64 d.leaf, .string d.entry.topic, .int .i64 d.entry.index, .int .i64 d.entry.time, .string d.entry.key, .string d.entry.body, .string d.receipt.reader, .string d.receipt.topic, .int .i64 d.receipt.index, .slice A0 d.proof.length c0, .slice A1 d.more.length c1]).alloc (.cells #[] 25)
  have E0 := Ext.new (Below.refl w.heap.size w) (.cells #[.int .i64 d.kind, .int .i64 d.old.number, .int .i64 d.old.size, .string d.old.root, .int .i64 d.old.taken, .string d.old.takenRoot, .int .i64 d.head.number, .int .i64 d.head.size, .string d.head.root, .int .i64 d.head.taken, .string d.head.takenRoot, .int .i64 d.leaf, .string d.entry.topic, .int .i64 d.entry.index, .int .i64 d.entry.time, .string d.entry.key, .string d.entry.body, .string d.receipt.reader, .string d.receipt.topic, .int .i64 d.receipt.index, .slice A0 d.proof.length c0, .slice A1 d.more.length c1] 50)
  have hx := Ext.new (Below.refl (w.alloc (.cells #[.int .i64 d.kind, .int .i64 d.old.number, .int .i64 d.old.size, .string d.old.root, .int .i64 d.old.taken, .string d.old.takenRoot, .int .i64 d.head.number, .int .i64 d.head.size, .string d.head.root, .int .i64 d.head.taken, .string d.head.takenRoot, .int .i64 d.leaf, .string d.entry.topic, .int .i64 d.entry.index, .int .i64 d.entry.time, .string d.entry.key, .string d.entry.body, .string d.receipt.reader, .string d.receipt.topic, .int .i64 d.receipt.index, .slice A0 d.proof.length c0, .slice A1 d.more.length c1] 50)).heap.size (w.alloc (.cells #[.int .i64 d.kind, .int .i64 d.old.number, .int .i64 d.old.size, .string d.old.root, .int .i64 d.old.taken, .string d.old.takenRoot, .int .i64 d.head.number, .int .i64 d.head.size, .string d.head.root, .int .i64 d.head.taken, .string d.head.takenRoot, .int .i64 d.leaf, .string d.entry.topic, .int .i64 d.entry.index, .int .i64 d.entry.time, .string d.entry.key, .string d.entry.body, .string d.receipt.reader, .string d.receipt.topic, .int .i64 d.receipt.index, .slice A0 d.proof.length c0, .slice A1 d.more.length c1] 50))) (.cells #[] 25)
  have H0 : OwnP (w.alloc (.cells #[.int .i64 d.kind, .int .i64 d.old.number, .int .i64 d.old.size, .string d.old.root, .int .i64 d.old.taken, .string d.old.takenRoot, .int .i64 d.head.number, .int .i64 d.head.size, .string d.head.root, .int .i64 d.head.taken, .string d.head.takenRoot, .int .i64 d.leaf, .string d.entry.topic, .int .i64 d.entry.index, .int .i64 d.entry.time, .string d.entry.key, .string d.entry.body, .string d.receipt.reader, .string d.receipt.topic, .int .i64 d.receipt.index, .slice A0 d.proof.length c0, .slice A1 d.more.length c1] 50)) ((w.alloc (.cells #[.int .i64 d.kind, .int .i64 d.old.number, .int .i64 d.old.size, .string d.old.root, .int .i64 d.old.taken, .string d.old.takenRoot, .int .i64 d.head.number, .int .i64 d.head.size, .string d.head.root, .int .i64 d.head.taken, .string d.head.takenRoot, .int .i64 d.leaf, .string d.entry.topic, .int .i64 d.entry.index, .int .i64 d.entry.time, .string d.entry.key, .string d.entry.body, .string d.receipt.reader, .string d.receipt.topic, .int .i64 d.receipt.index, .slice A0 d.proof.length c0, .slice A1 d.more.length c1] 50)).alloc (.cells #[] 25)) (.slice (some ⟨w.heap.size + 1, 0, none⟩) 0 0) [] := by
    have h := ownsRow_empty (w.alloc (.cells #[.int .i64 d.kind, .int .i64 d.old.number, .int .i64 d.old.size, .string d.old.root, .int .i64 d.old.taken, .string d.old.takenRoot, .int .i64 d.head.number, .int .i64 d.head.size, .string d.head.root, .int .i64 d.head.taken, .string d.head.takenRoot, .int .i64 d.leaf, .string d.entry.topic, .int .i64 d.entry.index, .int .i64 d.entry.time, .string d.entry.key, .string d.entry.body, .string d.receipt.reader, .string d.receipt.topic, .int .i64 d.receipt.index, .slice A0 d.proof.length c0, .slice A1 d.more.length c1] 50)) 25 2
    have e : (w.alloc (.cells #[.int .i64 d.kind, .int .i64 d.old.number, .int .i64 d.old.size, .string d.old.root, .int .i64 d.old.taken, .string d.old.takenRoot, .int .i64 d.head.number, .int .i64 d.head.size, .string d.head.root, .int .i64 d.head.taken, .string d.head.takenRoot, .int .i64 d.leaf, .string d.entry.topic, .int .i64 d.entry.index, .int .i64 d.entry.time, .string d.entry.key, .string d.entry.body, .string d.receipt.reader, .string d.receipt.topic, .int .i64 d.receipt.index, .slice A0 d.proof.length c0, .slice A1 d.more.length c1] 50)).heap.size = w.heap.size + 1 := World.size_alloc _ _
    unfold OwnP OwnF
    rw [e] at h ⊢
    exact h
  obtain ⟨D, hD⟩ : ∃ D : List Value, D = [.int .i64 d.kind, .int .i64 d.old.number, .int .i64 d.old.size, .string d.old.root, .int .i64 d.old.taken, .string d.old.takenRoot, .int .i64 d.head.number, .int .i64 d.head.size, .string d.head.root, .int .i64 d.head.taken, .string d.head.takenRoot, .int .i64 d.leaf, .string d.entry.topic, .int .i64 d.entry.index, .int .i64 d.entry.time, .string d.entry.key, .string d.entry.body, .string d.receipt.reader, .string d.receipt.topic, .int .i64 d.receipt.index, .slice A0 d.proof.length c0, .slice A1 d.more.length c1] := ⟨_, rfl⟩
  have SI := Lib.hid (show ItemD.In AnyB w D d from ⟨A0, c0, A1, c1, hD, s0, s1⟩)
  have RG := Lib.hid (show ((w.alloc (.cells #[.int .i64 d.kind, .int .i64 d.old.number, .int .i64 d.old.size, .string d.old.root, .int .i64 d.old.taken, .string d.old.takenRoot, .int .i64 d.head.number, .int .i64 d.head.size, .string d.head.root, .int .i64 d.head.taken, .string d.head.takenRoot, .int .i64 d.leaf, .string d.entry.topic, .int .i64 d.entry.index, .int .i64 d.entry.time, .string d.entry.key, .string d.entry.body, .string d.receipt.reader, .string d.receipt.topic, .int .i64 d.receipt.index, .slice A0 d.proof.length c0, .slice A1 d.more.length c1] 50)).alloc (.cells #[] 25)).rangeAt w.heap.size 0 D by rw [hD]; exact K0.range)
  have HL := Lib.hid (ItemD.in_len SI.out)
  have IO : Hid (∀ (w : World), ItemD.In AnyB w D d → Calls Tryz.prog 35 #[.int .i64 n, .agg D.toArray] w fun e w' => e = .returned (.bool (itemOk n d)) ∧ Ext w w') := Lib.hid (fun w h => by obtain ⟨Q0, q0, Q1, q1, hq, t0, t1⟩ := h; rw [hq]; exact specItemOk_any n d Q0 q0 Q1 q1 w hok t0 t1 hf)
  have Hok := Lib.hid hok; have S0 := Lib.hid s0; have S1 := Lib.hid s1
  clear hok s0 s1 hD hf
  have HH := Lib.hid H0; have HX := Lib.hid hx; have HE := Lib.hid E0; have HK := Lib.hid K0
  clear H0 hx E0 K0
  go_enter Tryz.func13, Tryz.ntmps13
  go_wp2_with (refine wpList_load_mid rfl 50 _ rfl w.heap.size 0 rfl D _ RG.out Tryz.underlying50 rfl (by rw [HL.out]; kernel_rfl) ?_)
  obtain ⟨g, hg⟩ : ∃ g, g = w.heap.size := ⟨_, rfl⟩
  rw [← hg] at RG HK HH
  rw [← hg]
  clear hg
  generalize w.alloc (.cells #[.int .i64 d.kind, .int .i64 d.old.number, .int .i64 d.old.size, .string d.old.root, .int .i64 d.old.taken, .string d.old.takenRoot, .int .i64 d.head.number, .int .i64 d.head.size, .string d.head.root, .int .i64 d.head.taken, .string d.head.takenRoot, .int .i64 d.leaf, .string d.entry.topic, .int .i64 d.entry.index, .int .i64 d.entry.time, .string d.entry.key, .string d.entry.body, .string d.receipt.reader, .string d.receipt.topic, .int .i64 d.receipt.index, .slice A0 d.proof.length c0, .slice A1 d.more.length c1] 50) = w0 at *
  generalize w0.alloc (.cells #[] 25) = w1 at *
  have E0 := HE
  refine (IO.out _ (ItemD.inExt SI.out (E0.out.next HX.out))).mono ?_
  rintro e w2 ⟨rfl, h1⟩
  have hx := HX.out.next h1
  have KO := Lib.hid (OwnF.ext HH.out h1)
  have K00 := Lib.hid (HK.out.ext h1)
  have X2 := h1
  clear RG IO HL HH HX HE HK h1
  generalize Value.slice (some ⟨g + 1, 0, none⟩) 0 0 = V at *
  have he := E0.out.next hx
  cases b : itemOk n d
  · have E := Lib.hid (presOf_no b)
    go_wp2_with fail
    go_ret2
    exact ⟨_, ret_vb b.symm, by rw [E.out]; exact OwnF.base KO.out E0.out.size, he⟩
  have K0 := K00.out
  obtain ⟨hc, hf⟩ := K0.rules
  by_cases k2 : d.kind = 2
  · have f1 : (d.kind == 1) = false := by simp; omega
    have f2 : (d.kind == 2) = true := by simpa using k2
    have E := Lib.hid (presOf_2 b k2)
    have EH := Lib.hid (item_entry b k2).2
    have HS := Lib.hid (textsIn_small n d.head.size d.leaf (digest n 0 (leafText d.entry)) d.proof)
    have HP := Lib.hid (show pathP n 0 (leafText d.entry) d.head.size d.leaf d.proof = [⟨0, (leafText d.entry)⟩] ++ nodesP (textsIn n d.head.size d.leaf (digest n 0 (leafText d.entry)) d.proof) from rfl)
    clear k2
    go_wp2_with fail
    refine (specLeafText_any d.entry _ Hok.out.2.2.2.2.1).mono ?_
    rintro e w3 ⟨rfl, h1⟩
    replace hx := hx.next h1; replace he := he.next h1; replace K0 := K0.ext h1; replace KO := Lib.hid (OwnF.ext KO.out h1); clear h1 hc hf
    obtain ⟨hc, hf⟩ := K0.rules
    go_wp2_with fail
    refine (specLeafHash_any n d.entry _ Hok.out.2.2.2.2.1).mono ?_
    rintro e w4 ⟨rfl, h1⟩
    rw [EH.out]
    replace hx := hx.next h1; replace he := he.next h1; replace K0 := K0.ext h1; replace KO := Lib.hid (OwnF.ext KO.out h1); clear h1 hc hf
    obtain ⟨hc, hf⟩ := K0.rules
    have hdg := digest_le n 0 (leafText d.entry)
    go_wp2_with fail
    refine (specTextsIn_any n d.head.size d.leaf (digest n 0 (leafText d.entry)) A0 c0 d.proof _ (by unfold maxLen; omega) S0.out.le l0 (S0.out.ext he).reads).mono ?_
    rintro e w5 ⟨va, rfl, oa, h1⟩
    replace hx := hx.next h1; replace KO := Lib.hid (OwnF.ext KO.out h1); clear h1 hc hf K0 he
    have OA := Lib.hid oa; clear oa
    generalize textsIn n d.head.size d.leaf (digest n 0 (leafText d.entry)) d.proof = ts at *
    have hw := hx.size
    go_wp2_with (at_builtin; refine wpList_append_own _ rfl _ _ 43 rfl w0.heap.size 25 i0 (.agg #[.int .i64 0, .string ⟨#[]⟩]) 2 24 Tryz.underlying43 hi hz0 hz1 hz2 rfl (by decide) _ _ _ rfl (KO.out.alloc _) ⟨w5.heap.size, 0, none⟩ 1 1 (PreD.cells ⟨0, (leafText d.entry)⟩) rfl rfl ?c1 ?c2 ?c3 ?c4 ?c5 ?_)
    case c1 => exact fun j v hj => by exact new_at w5 (PreD.cells ⟨0, (leafText d.entry)⟩) 25 j v hj
    case c2 => intro v hv; simp [PreD.cells] at hv; rcases hv with rfl | rfl <;> rfl
    case c3 => decide
    case c4 => decide
    case c5 => simp; omega
    intro v' wz hown' hgrow _
    have hx2 := Ext.ownGrown (hx.new _) (KO.out.alloc _) hgrow (Nat.le_refl _)
    have OA2 := Lib.hid (World.ownsRow.kept (World.ownsRow.alloc OA.out _) hgrow (own_other OA.out KO.out (by decide)))
    have KZ := Lib.hid (show OwnP w0 wz v' [⟨0, (leafText d.entry)⟩] from hown')
    clear hown' hgrow KO hx OA hw
    have hx := hx2; have KO := KZ
    clear hx2 KZ
    go_wp2_with fail
    refine (l20Nodes_any _ _ _ ts OA2.out (by have := HS.out.1; omega)).mono ?_
    rintro e w6 ⟨vn, rfl, on, h1⟩
    replace hx := hx.next h1; replace KO := Lib.hid (OwnF.ext KO.out h1); clear h1 OA2
    have VO := Lib.hid on; clear on
    have hnl := nodesP_len ts
    generalize nodesP ts = us at *
    go_wp2_with (at_builtin; refine wpList_append_src rfl _ _ 43 rfl w0.heap.size 25 i0 (.agg #[.int .i64 0, .string ⟨#[]⟩]) 2 24 Tryz.underlying43 hi hz0 hz1 hz2 rfl (by decide) _ _ _ rfl KO.out _ _ _ rfl (srcL_own VO.out) ?c1 ?c2 ?c3 ?c4 ?_)
    case c1 => exact pre_cells _
    case c2 => have := HS.out.1; simp only [List.length_cons, List.length_nil]; unfold maxLen; omega
    case c3 => have := HS.out.1; simp only [List.length_cons, List.length_nil]; omega
    case c4 => exact hx.size
    intro v' wz hown' hgrow
    have hx2 := Ext.ownGrown hx KO.out hgrow (Nat.le_refl _)
    have KZ := Lib.hid (show OwnP w0 wz v' ([⟨0, (leafText d.entry)⟩] ++ us) from by unfold OwnP OwnF; rw [← hnl] at hown'; simpa [Nat.add_comm] using hown')
    clear hown' hgrow KO VO hx
    have hx := hx2
    clear hx2
    have KO := KZ
    clear KZ
    go_wp2_with fail
    go_ret2
    exact ⟨_, ret_vb b.symm, by rw [E.out, HP.out]; exact OwnF.base KO.out E0.out.size, E0.out.next hx⟩
  have f2 : (d.kind == 2) = false := by simpa using k2
  by_cases k3 : d.kind = 3
  · have f1 : (d.kind == 1) = false := by simp; omega
    have f3 : (d.kind == 3) = true := by simpa using k3
    have E := Lib.hid (presOf_3 b k3)
    have EH := Lib.hid (item_rec b k3).2
    have HS := Lib.hid (textsIn_small n d.head.taken d.leaf (digest n 2 (receiptText d.receipt)) d.proof)
    have HP := Lib.hid (show pathP n 2 (receiptText d.receipt) d.head.taken d.leaf d.proof = [⟨2, (receiptText d.receipt)⟩] ++ nodesP (textsIn n d.head.taken d.leaf (digest n 2 (receiptText d.receipt)) d.proof) from rfl)
    clear k3
    go_wp2_with fail
    refine (specReceiptText_any d.receipt _ Hok.out.2.2.2.2.2.1).mono ?_
    rintro e w3 ⟨rfl, h1⟩
    replace hx := hx.next h1; replace he := he.next h1; replace K0 := K0.ext h1; replace KO := Lib.hid (OwnF.ext KO.out h1); clear h1 hc hf
    obtain ⟨hc, hf⟩ := K0.rules
    go_wp2_with fail
    refine (specReceiptHash_any n d.receipt _ Hok.out.2.2.2.2.2.1).mono ?_
    rintro e w4 ⟨rfl, h1⟩
    rw [EH.out]
    replace hx := hx.next h1; replace he := he.next h1; replace K0 := K0.ext h1; replace KO := Lib.hid (OwnF.ext KO.out h1); clear h1 hc hf
    obtain ⟨hc, hf⟩ := K0.rules
    have hdg := digest_le n 2 (receiptText d.receipt)
    go_wp2_with fail
    refine (specTextsIn_any n d.head.taken d.leaf (digest n 2 (receiptText d.receipt)) A0 c0 d.proof _ (by unfold maxLen; omega) S0.out.le l0 (S0.out.ext he).reads).mono ?_
    rintro e w5 ⟨va, rfl, oa, h1⟩
    replace hx := hx.next h1; replace KO := Lib.hid (OwnF.ext KO.out h1); clear h1 hc hf K0 he
    have OA := Lib.hid oa; clear oa
    generalize textsIn n d.head.taken d.leaf (digest n 2 (receiptText d.receipt)) d.proof = ts at *
    have hw := hx.size
    go_wp2_with (at_builtin; refine wpList_append_own _ rfl _ _ 43 rfl w0.heap.size 25 i0 (.agg #[.int .i64 0, .string ⟨#[]⟩]) 2 24 Tryz.underlying43 hi hz0 hz1 hz2 rfl (by decide) _ _ _ rfl (KO.out.alloc _) ⟨w5.heap.size, 0, none⟩ 1 1 (PreD.cells ⟨2, (receiptText d.receipt)⟩) rfl rfl ?c1 ?c2 ?c3 ?c4 ?c5 ?_)
    case c1 => exact fun j v hj => by exact new_at w5 (PreD.cells ⟨2, (receiptText d.receipt)⟩) 25 j v hj
    case c2 => intro v hv; simp [PreD.cells] at hv; rcases hv with rfl | rfl <;> rfl
    case c3 => decide
    case c4 => decide
    case c5 => simp; omega
    intro v' wz hown' hgrow _
    have hx2 := Ext.ownGrown (hx.new _) (KO.out.alloc _) hgrow (Nat.le_refl _)
    have OA2 := Lib.hid (World.ownsRow.kept (World.ownsRow.alloc OA.out _) hgrow (own_other OA.out KO.out (by decide)))
    have KZ := Lib.hid (show OwnP w0 wz v' [⟨2, (receiptText d.receipt)⟩] from hown')
    clear hown' hgrow KO hx OA hw
    have hx := hx2; have KO := KZ
    clear hx2 KZ
    go_wp2_with fail
    refine (l20Nodes_any _ _ _ ts OA2.out (by have := HS.out.1; omega)).mono ?_
    rintro e w6 ⟨vn, rfl, on, h1⟩
    replace hx := hx.next h1; replace KO := Lib.hid (OwnF.ext KO.out h1); clear h1 OA2
    have VO := Lib.hid on; clear on
    have hnl := nodesP_len ts
    generalize nodesP ts = us at *
    go_wp2_with (at_builtin; refine wpList_append_src rfl _ _ 43 rfl w0.heap.size 25 i0 (.agg #[.int .i64 0, .string ⟨#[]⟩]) 2 24 Tryz.underlying43 hi hz0 hz1 hz2 rfl (by decide) _ _ _ rfl KO.out _ _ _ rfl (srcL_own VO.out) ?c1 ?c2 ?c3 ?c4 ?_)
    case c1 => exact pre_cells _
    case c2 => have := HS.out.1; simp only [List.length_cons, List.length_nil]; unfold maxLen; omega
    case c3 => have := HS.out.1; simp only [List.length_cons, List.length_nil]; omega
    case c4 => exact hx.size
    intro v' wz hown' hgrow
    have hx2 := Ext.ownGrown hx KO.out hgrow (Nat.le_refl _)
    have KZ := Lib.hid (show OwnP w0 wz v' ([⟨2, (receiptText d.receipt)⟩] ++ us) from by unfold OwnP OwnF; rw [← hnl] at hown'; simpa [Nat.add_comm] using hown')
    clear hown' hgrow KO VO hx
    have hx := hx2
    clear hx2
    have KO := KZ
    clear KZ
    go_wp2_with fail
    go_ret2
    exact ⟨_, ret_vb b.symm, by rw [E.out, HP.out]; exact OwnF.base KO.out E0.out.size, E0.out.next hx⟩
  have f1 : (d.kind == 1) = true := by have := item_kind b; simp; omega
  have E := Lib.hid (presOf_1 b k2 k3)
  have HA := Lib.hid (textsB_small n d.old.size d.old.root d.head.size d.proof)
  have HB := Lib.hid (textsB_small n d.old.taken d.old.takenRoot d.head.taken d.more)
  have HP := Lib.hid (show betwP n d = nodesP (textsB n d.old.size d.old.root d.head.size d.proof) ++ nodesP (textsB n d.old.taken d.old.takenRoot d.head.taken d.more) from rfl)
  clear k2 k3
  go_wp2_with fail
  refine (specTextsBetween_any n d.old.size d.old.root d.head.size A0 c0 d.proof _ Hok.out.2.1.2.2.1 S0.out.le l0 (S0.out.ext he).reads).mono ?_
  rintro e w3 ⟨va, rfl, oa, h1⟩
  have OA := Lib.hid oa; clear oa
  replace hx := hx.next h1; replace he := he.next h1; replace K0 := K0.ext h1; replace KO := Lib.hid (OwnF.ext KO.out h1); clear h1 hc hf
  obtain ⟨hc, hf⟩ := K0.rules
  go_wp2_with fail
  refine (specTextsBetween_any n d.old.taken d.old.takenRoot d.head.taken A1 c1 d.more _ Hok.out.2.1.2.2.2.2 S1.out.le l1 (S1.out.ext he).reads).mono ?_
  rintro e w4 ⟨vb, rfl, ob, h1⟩
  have OB := Lib.hid ob; clear ob
  replace hx := hx.next h1; replace KO := Lib.hid (OwnF.ext KO.out h1); replace OA := Lib.hid (OwnT.ext OA.out h1); clear h1 hc hf K0 he
  generalize textsB n d.old.size d.old.root d.head.size d.proof = ta at *
  generalize textsB n d.old.taken d.old.takenRoot d.head.taken d.more = tb at *
  go_wp2_with fail
  refine (l20Nodes_any _ _ _ ta OA.out (by have := HA.out.1; omega)).mono ?_
  rintro e w5 ⟨vn, rfl, on, h1⟩
  replace hx := hx.next h1; replace KO := Lib.hid (OwnF.ext KO.out h1); replace OB := Lib.hid (OwnT.ext OB.out h1); clear h1 OA
  have VO := Lib.hid on; clear on
  have hna := nodesP_len ta
  generalize nodesP ta = ua at *
  go_wp2_with (at_builtin; refine wpList_append_src rfl _ _ 43 rfl w0.heap.size 25 i0 (.agg #[.int .i64 0, .string ⟨#[]⟩]) 2 24 Tryz.underlying43 hi hz0 hz1 hz2 rfl (by decide) _ _ _ rfl KO.out _ _ _ rfl (srcL_own VO.out) ?c1 ?c2 ?c3 ?c4 ?_)
  case c1 => exact pre_cells _
  case c2 => have := HA.out.1; simp only [List.length_nil]; unfold maxLen; omega
  case c3 => have := HA.out.1; simp only [List.length_nil]; omega
  case c4 => exact hx.size
  intro v' wz hown' hgrow
  have OB2 := Lib.hid (World.ownsRow.kept OB.out hgrow (own_other OB.out KO.out (by decide)))
  have hx2 := Ext.ownGrown hx KO.out hgrow (Nat.le_refl _)
  have KZ := Lib.hid (show OwnP w0 wz v' ua from by unfold OwnP OwnF; rw [← hna] at hown'; simpa using hown')
  clear hown' hgrow KO VO hx
  have hx := hx2
  clear hx2
  have KO := KZ
  clear KZ
  clear OB
  go_wp2_with fail
  refine (l20Nodes_any _ _ _ tb OB2.out (by have := HB.out.1; omega)).mono ?_
  rintro e w6 ⟨vm, rfl, om, h1⟩
  replace hx := hx.next h1; replace KO := Lib.hid (OwnF.ext KO.out h1); clear h1 OB2
  have VO := Lib.hid om; clear om
  have hnb := nodesP_len tb
  generalize nodesP tb = ub at *
  go_wp2_with (at_builtin; refine wpList_append_src rfl _ _ 43 rfl w0.heap.size 25 i0 (.agg #[.int .i64 0, .string ⟨#[]⟩]) 2 24 Tryz.underlying43 hi hz0 hz1 hz2 rfl (by decide) _ _ _ rfl KO.out _ _ _ rfl (srcL_own VO.out) ?c1 ?c2 ?c3 ?c4 ?_)
  case c1 => exact pre_cells _
  case c2 => have := HA.out.1; have := HB.out.1; unfold maxLen; omega
  case c3 => have := HA.out.1; have := HB.out.1; omega
  case c4 => exact hx.size
  intro v' wz hown' hgrow
  have hx2 := Ext.ownGrown hx KO.out hgrow (Nat.le_refl _)
  have KZ := Lib.hid (show OwnP w0 wz v' (ua ++ ub) from by unfold OwnP OwnF; rw [← hna, ← hnb] at hown'; simpa using hown')
  clear hown' hgrow KO VO hx
  have hx := hx2
  clear hx2
  have KO := KZ
  clear KZ
  go_wp2_with fail
  go_ret2
  exact ⟨_, ret_vb b.symm, by rw [E.out, HP.out]; exact OwnF.base KO.out E0.out.size, E0.out.next hx⟩
end Go.Proofs.YtichegndafnjeaaGreat
