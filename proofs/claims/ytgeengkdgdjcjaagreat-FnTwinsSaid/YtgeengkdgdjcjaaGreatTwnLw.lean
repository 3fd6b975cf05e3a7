/-
  TwnLw: No condition.
-/
import Derived.Test.YtgeengkdgdjcjaaGreatArgs
import Derived.Test.YtgeengkdgdjcjaaGreatFetchP
import Derived.Test.YtgeengkdgdjcjaaGreatBig
import Derived.Test.YtgeengkdgdjcjaaGreatBroker0
import Derived.Test.YtgeengkdgdjcjaaGreatItemIn
namespace Go.Proofs.YtgeengkdgdjcjaaGreat
set_option maxHeartbeats 16000000
set_option maxRecDepth 100000
set_option linter.unusedSimpArgs false
open Go.RowKit Go.WideShapes Go.ChangeAt
set_option linter.unusedVariables false
theorem entry_lens {E : EntryD} (h : entryOk E = true) : ∀ x ∈ E.lens, x ≤ 1048576 := by
 simp only [entryOk, partsB, Bool.and_eq_true, decide_eq_true_eq] at h
 obtain ⟨⟨h1, _⟩, ⟨_, h3⟩, h5⟩ := h
 have h2 := nameOk_size h1
 intro x hx
 simp only [EntryD.lens, List.mem_cons, List.not_mem_nil, or_false] at hx
 rcases hx with rfl | rfl | rfl <;> omega
theorem tw_ok {n : Nat} (hn4 : n ≤ 4) (hn : inR (n : Int) 1 32 = true) {L : List EntryD} (h : LogRight L) (hl : L.length ≤ 12) {k : Nat} (hk : k < L.length) {E : EntryD} (ho : entryOk E = true) (he : E.Ok) : (twI (n : Int) L k E).Ok ∧ ∀ x ∈ (twI (n : Int) L k E).lens, x ≤ 1048576 := by
 have s1 : (treeR (n : Int) (leavesH (n : Int) L)).size = n := treeR_size hn _ _ (Nat.le_refl _) (leaves_size hn h)
 have s2 : (emptyR (n : Int)).size = n := digest_size (by rw [emptyOk]; exact hn)
 have s3 := inclN_size hn 512 (leavesH (n : Int) L) k (leaves_size hn h)
 have s4 := inclN_len (n : Int) 512 (leavesH (n : Int) L) k
 have z0 : (⟨#[]⟩ : ByteArray).size = 0 := rfl
 have w1 : ∀ x : Int, 0 ≤ x → x ≤ 1000 → (Lit.int .i64 x).wf = true := fun x h1 h2 => by
  simp [Lit.wf, IntKind.min, IntKind.max, IntKind.signed, IntKind.bits]; omega
 have hz : HeadD.Ok ⟨0, 0, ⟨#[]⟩, 0, ⟨#[]⟩⟩ := ⟨w1 0 (by decide) (by decide), w1 0 (by decide) (by decide), Nat.zero_le _, w1 0 (by decide) (by decide), Nat.zero_le _⟩
 constructor
 · refine ⟨w1 2 (by decide) (by decide), hz, ⟨w1 1 (by decide) (by decide), w1 _ (by show (0 : Int) ≤ (L.length : Int); omega) (by show (L.length : Int) ≤ 1000; omega), ?_, w1 0 (by decide) (by decide), ?_⟩, w1 _ (by show (0 : Int) ≤ (k : Int); omega) (by show (k : Int) ≤ 1000; omega), he, ⟨Nat.zero_le _, Nat.zero_le _, w1 0 (by decide) (by decide)⟩, ?_, fun s hs => by cases hs⟩
   · show (treeR (n : Int) (leavesH (n : Int) L)).size ≤ maxLen
     rw [s1]; unfold maxLen; omega
   · show (emptyR (n : Int)).size ≤ maxLen
     rw [s2]; unfold maxLen; omega
   · intro s hs
     rw [s3 s hs]; unfold maxLen; omega
 · intro x hx
   have e5 := entry_lens ho
   simp only [twI, twH, ItemD.lens, HeadD.lens, ReceiptD.lens, List.mem_append, List.mem_cons, List.not_mem_nil, or_false, List.flatMap_nil, List.append_nil, List.length_nil, z0, s1, s2] at hx
   rcases hx with h | h | h | h | h | h
   · omega
   · omega
   · exact e5 x h
   · omega
   · rcases h with h | h
     · omega
     · obtain ⟨s, hs, hx⟩ := List.mem_flatMap.1 h
       have := s3 s hs
       simp only [slens, List.mem_singleton] at hx
       omega
   · omega
theorem cell5 {w w' : World} {q o : Nat} {v0 v1 v2 v3 v4 : Value} (he : Ext w w') (hq : q < w.heap.size) (h : w.cell? ⟨q, o, none⟩ = some v0 ∧ w.cell? ⟨q, o + 1, none⟩ = some v1 ∧ w.cell? ⟨q, o + 2, none⟩ = some v2 ∧ w.cell? ⟨q, o + 3, none⟩ = some v3 ∧ w.cell? ⟨q, o + 4, none⟩ = some v4) :
 w'.cell? ⟨q, o, none⟩ = some v0 ∧ w'.cell? ⟨q, o + 1, none⟩ = some v1 ∧ w'.cell? ⟨q, o + 2, none⟩ = some v2 ∧ w'.cell? ⟨q, o + 3, none⟩ = some v3 ∧ w'.cell? ⟨q, o + 4, none⟩ = some v4 :=
 ⟨(he.cell (p := ⟨q, o, none⟩) hq).trans h.1, (he.cell (p := ⟨q, o + 1, none⟩) hq).trans h.2.1, (he.cell (p := ⟨q, o + 2, none⟩) hq).trans h.2.2.1, (he.cell (p := ⟨q, o + 3, none⟩) hq).trans h.2.2.2.1, (he.cell (p := ⟨q, o + 4, none⟩) hq).trans h.2.2.2.2⟩
theorem ent_at {l : List EntryD} {w : World} {b off : Nat} {k : Nat} {d : EntryD} (hc : ∀ j u, (l.flatMap EntryD.cells)[k * 5 + j]? = some u → w.cell? ⟨b, off + k * 5 + j, none⟩ = some u) (hd : l[k]? = some d) :
 w.cell? ⟨b, off + k * 5, none⟩ = some (.string d.topic) ∧ w.cell? ⟨b, off + k * 5 + 1, none⟩ = some (.int .i64 d.index) ∧ w.cell? ⟨b, off + k * 5 + 2, none⟩ = some (.int .i64 d.time) ∧ w.cell? ⟨b, off + k * 5 + 3, none⟩ = some (.string d.key) ∧ w.cell? ⟨b, off + k * 5 + 4, none⟩ = some (.string d.body) :=
 ⟨hc 0 _ (flat_at _ 5 EntryD.cells_length l k 0 d hd (by omega)), hc 1 _ (flat_at _ 5 EntryD.cells_length l k 1 d hd (by omega)), hc 2 _ (flat_at _ 5 EntryD.cells_length l k 2 d hd (by omega)), hc 3 _ (flat_at _ 5 EntryD.cells_length l k 3 d hd (by omega)), hc 4 _ (flat_at _ 5 EntryD.cells_length l k 4 d hd (by omega))⟩
theorem two_items {w : World} {g t : Nat} {cs ds : List Value} {a b : ItemD} (h : Blk w g t (cs ++ ds).toArray) (ha : ItemD.In AnyB w cs a) (hb : ItemD.In AnyB w ds b) : SlN AnyB ItemD.In 22 w (some ⟨g, 0, none⟩) [a, b] 2 := by
 have la := ItemD.in_len ha
 have lb := ItemD.in_len hb
 refine ⟨Nat.le_refl _, by unfold maxLen; omega, ⟨[cs, ds], rfl, fun x hx => ?_, fun i x y h1 h2 => ?_, ?_⟩, fun _ _ _ => trivial⟩
 · simp only [List.mem_cons, List.not_mem_nil, or_false] at hx
   rcases hx with rfl | rfl
   · exact la
   · exact lb
 · match i, h1, h2 with
   | 0, h1, h2 => cases h1; cases h2; exact ha
   | 1, h1, h2 => cases h1; cases h2; exact hb
   | i + 2, h1, h2 => simp at h1
 · show Reads w w.heap.size 22 (some ⟨g, 0, none⟩) 2 ([cs, ds].flatMap id)
   have e : [cs, ds].flatMap id = cs ++ ds := by simp
   rw [e]
   exact Blk.reads h 2 22 (by simp [la, lb])
theorem byte9_typed {w : World} {n : Nat} {cs : List Value} (h : Typed Tryz.prog w n 5 cs) : ∃ x, cs = byteC x ∧ ByteIn x := by
 obtain ⟨m, rfl, hw⟩ := typed_int Tryz.underlying5 h
 refine ⟨m, rfl, ?_⟩
 simp [Lit.wf, IntKind.min, IntKind.max, IntKind.signed, IntKind.bits] at hw
 exact ⟨by omega, by omega⟩
theorem lawTwins_walk (A : Option Addr) (c : Nat) (l : List Int) (w : World) (hlen : l.length ≤ maxLen) (hin : ∀ x ∈ l, ByteIn x) (hr : ReadsL w w.heap.size byteC 1 A l) :
 Calls Tryz.prog 5 #[.slice A l.length c] w fun e w' => e = .returned (.bool true) ∧ Ext w w' := by
 by_cases hb : 1048576 < l.length
 · have hd : decide (1048576 < l.length) = true := decide_eq_true hb
   go_enter Tryz.func5, Tryz.ntmps5
   go_wp2_with (go_at_call 8; refine (big_any _ _ _ _ hlen).mono ?_; rintro e w' ⟨rfl, rfl⟩; rw [hd])
   go_ret
   exact ⟨rfl, Below.refl _ _⟩
 have hd : decide (1048576 < l.length) = false := decide_eq_false hb
 have Hr := hU hr; clear hr
 have Hin := hU hin; clear hin
 go_enter Tryz.func5, Tryz.ntmps5
 go_wp2_with (go_at_call 8; refine (big_any _ _ _ _ hlen).mono ?_; rintro e w' ⟨rfl, rfl⟩; rw [hd])
 refine (DrawTwin_any A c l _ hlen Hin.out Hr.out).mono ?_
 rintro e w3 ⟨he, n, V, cv, L, k, hk, bd, hn1, hn4, hL, hLR, hLD, hbd, hs, heq⟩
 have heq2 : e = .returned (.tuple #[.int .i64 (n : Int), .slice V L.length cv, .int .i64 (k : Int), .agg #[.string L[k].topic, .int .i64 L[k].index, .int .i64 L[k].time, .string L[k].key, .string bd]]) := heq
 clear heq
 subst heq2
 obtain ⟨E, hE⟩ : ∃ E, E = L[k] := ⟨_, rfl⟩
 have hEl : L[k]? = some E := by rw [hE]; exact List.getElem?_eq_getElem hk
 obtain ⟨hEo, hEk, hEi⟩ := hLR k E hEl
 have hn : inR (n : Int) 1 32 = true := by simp [inR]; omega
 rw [← hE]
 clear hE hLD hEi
 have hlog := log_right hLR (by omega)
 have hLok : ∀ d ∈ L, d.Ok := fun d hd => by
  obtain ⟨i, hi⟩ := List.getElem?_of_mem hd
  exact (hLR i d hi).2.1
 obtain ⟨fo, fk⟩ := body_ok hEo hEk hbd
 have P1 := hU (twI_ok hn hLR hL hEl)
 have P2 := hU (fun (h2 : itemOk (n : Int) (twI (n : Int) L k { E with body := bd }) = true) (hne : E ≠ { E with body := bd }) => twins_meet hn (L := L) (k := k) P1.out h2 hne)
 obtain ⟨ok1, ln1⟩ := tw_ok hn4 hn hLR hL hk hEo hEk
 obtain ⟨ok2, ln2⟩ := tw_ok hn4 hn hLR hL hk fo fk
 have OK1 := hU ok1; have LN1 := hU ln1; have OK2 := hU ok2; have LN2 := hU ln2
 clear ok1 ok2 ln1 ln2 fo fk
 have HN := hU hn
 have hsz := leaves_size hn hLR
 have hPl : (leavesH (n : Int) L).length = L.length := by simp [leavesH]
 obtain ⟨b0, off, hV, hb0, hc⟩ := Reads.at_ hs.reads (k := k) hk
 subst hV
 have HC := hU (ent_at (k := k) (d := E) hc hEl)
 obtain ⟨LN, hLN⟩ : ∃ LN, LN = L.length := ⟨_, rfl⟩
 obtain ⟨PP, hPP⟩ : ∃ PP, PP = leavesH (n : Int) L := ⟨_, rfl⟩
 obtain ⟨R, hR⟩ : ∃ R, R = treeR (n : Int) PP := ⟨_, rfl⟩
 obtain ⟨EM, hEM⟩ : ∃ EM, EM = emptyR (n : Int) := ⟨_, rfl⟩
 obtain ⟨QP, hQP⟩ : ∃ QP, QP = inclN (n : Int) 512 PP k := ⟨_, rfl⟩
 rw [← hPP] at hsz hPl
 have h12 : LN ≤ 12 := by omega
 have hkn : k < LN := by omega
 have k0 : ¬ (k : Int) < 0 := by omega
 have k1 : ¬ (LN : Int) ≤ (k : Int) := by omega
 have C4 := hU (fun (W : World) (h : SlF AnyB EntryD.cells 5 W (some ⟨b0, off, none⟩) L cv) => implHashesOf_good (n : Int) hn (some ⟨b0, off, none⟩) cv L W h hLok hlog (by omega))
 rw [← hPP, ← hLN] at C4
 have C5 := hU (fun (B : Option Addr) (cc : Nat) (W : World) (h : SlF AnyB sone 1 W B PP cc) => implRootOf_good (n : Int) hn PP B cc W (by omega) h hsz)
 rw [← hR, hPl, ← hLN] at C5
 have C6 := hU (fun (B : Option Addr) (cc : Nat) (W : World) (h : SlF AnyB sone 1 W B PP cc) => implInclusion_good (n : Int) hn 512 PP B cc k W (by omega) (by omega) (by omega) h hsz)
 rw [← hQP, hPl, ← hLN] at C6
 have C7 := hU (fun (W : World) => implHeadNew_any (n : Int) W)
 rw [hn] at C7
 have hw : newH true (n : Int) = ⟨0, 0, EM, 0, EM⟩ := by rw [hEM]; rfl
 rw [hw] at C7
 obtain ⟨PN, hPN⟩ : ∃ PN, PN = QP.length := ⟨_, rfl⟩
 have HPN := hU hPN.symm
 have HPL := hU (show PP.length = LN by omega)
 have CI : Hid (∀ (D : EntryD) (B : Option Addr) (cc : Nat) (W : World), (twI (n : Int) L k D).Ok → (∀ x ∈ (twI (n : Int) L k D).lens, x ≤ 1048576) → SlF AnyB sone 1 W B QP cc → Calls Tryz.prog 27 #[.int .i64 (n : Int), .agg #[.int .i64 2, .int .i64 0, .int .i64 0, .string ⟨#[]⟩, .int .i64 0, .string ⟨#[]⟩, .int .i64 1, .int .i64 (LN : Int), .string R, .int .i64 0, .string EM, .int .i64 (k : Int), .string D.topic, .int .i64 D.index, .int .i64 D.time, .string D.key, .string D.body, .string ⟨#[]⟩, .string ⟨#[]⟩, .int .i64 0, .slice B PN cc, .slice none 0 0]] W fun e w' => e = .returned (.bool (itemOk (n : Int) (twI (n : Int) L k D))) ∧ Ext W w') := hU (fun D B cc W h1 h2 h3 => by
  rw [hPN, hLN, hR, hEM, hQP, hPP]
  rw [hQP, hPP] at h3
  exact implItemOk_any (n : Int) (twI (n : Int) L k D) B cc none 0 W h1 h3 (SlF.nil _ _ _ _) h2)
 have CF : Hid (∀ (D : EntryD) (g : Nat) (B : Option Addr) (cc : Nat) (W : World), (twI (n : Int) L k D).Ok → (∀ x ∈ (twI (n : Int) L k D).lens, x ≤ 1048576) → exOk (n : Int) [twI (n : Int) L k E, twI (n : Int) L k D] = true → brokenB (n : Int) (exA (n : Int) [twI (n : Int) L k E, twI (n : Int) L k D]) (exB (n : Int) [twI (n : Int) L k E, twI (n : Int) L k D]) = true → Blk W g 77 #[.int .i64 2, .int .i64 0, .int .i64 0, .string ⟨#[]⟩, .int .i64 0, .string ⟨#[]⟩, .int .i64 1, .int .i64 (LN : Int), .string R, .int .i64 0, .string EM, .int .i64 (k : Int), .string E.topic, .int .i64 E.index, .int .i64 E.time, .string E.key, .string E.body, .string ⟨#[]⟩, .string ⟨#[]⟩, .int .i64 0, .slice B PN cc, .slice none 0 0, .int .i64 2, .int .i64 0, .int .i64 0, .string ⟨#[]⟩, .int .i64 0, .string ⟨#[]⟩, .int .i64 1, .int .i64 (LN : Int), .string R, .int .i64 0, .string EM, .int .i64 (k : Int), .string D.topic, .int .i64 D.index, .int .i64 D.time, .string D.key, .string D.body, .string ⟨#[]⟩, .string ⟨#[]⟩, .int .i64 0, .slice B PN cc, .slice none 0 0] → SlF AnyB sone 1 W B QP cc → Calls Tryz.prog 28 #[.int .i64 (n : Int), .slice (some ⟨g, 0, none⟩) 2 2] W fun e w' => e = .returned (.bool true) ∧ Ext W w') := hU (fun D g B cc W h1 h2 h3 h4 h5 h6 => by
  have i1 : ∀ (D : EntryD), ItemD.In AnyB W [.int .i64 2, .int .i64 0, .int .i64 0, .string ⟨#[]⟩, .int .i64 0, .string ⟨#[]⟩, .int .i64 1, .int .i64 (LN : Int), .string R, .int .i64 0, .string EM, .int .i64 (k : Int), .string D.topic, .int .i64 D.index, .int .i64 D.time, .string D.key, .string D.body, .string ⟨#[]⟩, .string ⟨#[]⟩, .int .i64 0, .slice B PN cc, .slice none 0 0] (twI (n : Int) L k D) := fun D => by
   rw [hQP, hPP] at h6
   rw [hPN, hLN, hR, hEM, hQP, hPP]
   exact ⟨B, cc, none, 0, rfl, h6, SlF.nil _ _ _ _⟩
  refine found_yes (n : Int) (some ⟨g, 0, none⟩) 2 [twI (n : Int) L k E, twI (n : Int) L k D] W ?_ (fun d hd => ?_) (by show 2 ≤ 1048576; decide) (fun d hd => ?_) h3 h4
  · exact two_items h5 (i1 E) (i1 D)
  · simp only [List.mem_cons, List.not_mem_nil, or_false] at hd
    rcases hd with rfl | rfl
    · exact OK1.out
    · exact h1
  · simp only [List.mem_cons, List.not_mem_nil, or_false] at hd
    rcases hd with rfl | rfl
    · exact LN1.out
    · exact h2)
 have hx := Ext.new (Below.refl w3.heap.size w3) (.cells #[.string E.topic, .int .i64 E.index, .int .i64 E.time, .string E.key, .string bd] 56)
 have K6 := Blk.new w3 56 #[.string E.topic, .int .i64 E.index, .int .i64 E.time, .string E.key, .string bd]
 have HS := hU (hs.any.ext hx)
 replace HC := hU (cell5 hx hb0 HC.out)
 have HE := hU (he.next hx)
 have hb4 : b0 < (w3.alloc (.cells #[.string E.topic, .int .i64 E.index, .int .i64 E.time, .string E.key, .string bd] 56)).heap.size := Nat.lt_of_lt_of_le hb0 hx.size
 rw [← hLN]
 clear hs hx he hc hlog hLok hLR hEl hEo hEk hsz hPl hw hb0 hL hLN hPP hR hEM hQP hPN hn1 hbd hk hn hd hb Hin Hr
 go_upto_region 4 with fail
 obtain ⟨g6, hg6⟩ : ∃ g6, g6 = w3.heap.size := ⟨_, rfl⟩
 rw [← hg6] at K6
 rw [← hg6]
 clear hg6
 generalize w3.alloc (.cells #[.string E.topic, .int .i64 E.index, .int .i64 E.time, .string E.key, .string bd] 56) = w4 at *
 have K6H := hU K6
 clear K6
 go_wp2_with fail
 refine (C4.out _ HS.out).mono ?_
 rintro e w5 ⟨v1, rfl, hv1, h1⟩
 obtain ⟨A1, c1, rfl, _⟩ := ownsRow_form hv1
 rw [HPL.out]
 have S1 := hU (slf_at hv1).any
 have X := hU h1
 clear hv1 h1 C4
 go_wp2_with fail
 refine (C5.out A1 c1 _ S1.out).mono ?_
 rintro e w6 ⟨rfl, h1⟩
 replace S1 := hU (S1.out.ext h1); replace X := hU (X.out.next h1)
 clear h1 C5
 go_wp2_with fail
 refine (C6.out A1 c1 _ S1.out).mono ?_
 rintro e w7 ⟨v2, rfl, hv2, h1⟩
 obtain ⟨A2, c2, rfl, _⟩ := ownsRow_form hv2
 rw [HPN.out]
 have S2 := hU (show RowT w6.heap.size w7 (.slice A2 PN c2) QP by rw [← HPN.out]; exact hv2)
 have SF : Hid (∀ (K : Nat) (W : World), RowT K W (.slice A2 PN c2) QP → SlF AnyB sone 1 W A2 QP c2) := hU (fun K W h => by rw [← HPN.out] at h; exact (slf_at h).any)
 replace X := hU (X.out.next h1)
 clear h1 C6 hv2 S1
 go_wp2_with fail
 refine (C7.out _).mono ?_
 rintro e w8 ⟨rfl, h1⟩
 replace S2 := hU (S2.out.ext h1); replace X := hU (X.out.next h1)
 clear h1 C7
 have hx4 := X.out.size
 have hx := Ext.new (Below.refl w8.heap.size w8) (.cells #[.int .i64 0, .int .i64 0, .string EM, .int .i64 0, .string EM] 33)
 have K13 := Blk.new w8 33 #[.int .i64 0, .int .i64 0, .string EM, .int .i64 0, .string EM]
 replace S2 := hU (S2.out.ext hx); replace X := hU (X.out.next hx)
 clear hx
 go_upto_region 8 with fail
 have hg6l := K6H.out.lt
 obtain ⟨g13, hg13⟩ : ∃ g13, g13 = w8.heap.size := ⟨_, rfl⟩
 have hg13w : w4.heap.size ≤ g13 := by rw [hg13]; exact hx4
 rw [← hg13] at K13
 rw [← hg13]
 clear hg13 hx4
 generalize w8.alloc (.cells #[.int .i64 0, .int .i64 0, .string EM, .int .i64 0, .string EM] 33) = w9 at *
 obtain ⟨r13, f13⟩ := K13.rules
 go_upto_region 9 with fail
 replace X := hU (show Ext w4 (w9.setCell ⟨g13, 0, none⟩ (.int .i64 1)) from Below.setCell X.out (p := ⟨g13, 0, none⟩) (by show w4.heap.size ≤ g13; exact hg13w) (.int .i64 1))
 replace S2 := hU (RowT.setCell S2.out K13 (by decide) 0 (.int .i64 1))
 replace K13 := K13.set_ 0 (.int .i64 1)
 clear r13 f13
 generalize w9.setCell ⟨g13, 0, none⟩ (.int .i64 1) = w9 at *
 obtain ⟨r13, f13⟩ := K13.rules
 go_upto_region 10 with fail
 replace X := hU (show Ext w4 (w9.setCell ⟨g13, 1, none⟩ (.int .i64 (LN : Int))) from Below.setCell X.out (p := ⟨g13, 1, none⟩) (by show w4.heap.size ≤ g13; exact hg13w) (.int .i64 (LN : Int)))
 replace S2 := hU (RowT.setCell S2.out K13 (by decide) 1 (.int .i64 (LN : Int)))
 replace K13 := K13.set_ 1 (.int .i64 (LN : Int))
 clear r13 f13
 generalize w9.setCell ⟨g13, 1, none⟩ (.int .i64 (LN : Int)) = w9 at *
 obtain ⟨r13, f13⟩ := K13.rules
 go_upto_region 11 with fail
 replace X := hU (show Ext w4 (w9.setCell ⟨g13, 2, none⟩ (.string R)) from Below.setCell X.out (p := ⟨g13, 2, none⟩) (by show w4.heap.size ≤ g13; exact hg13w) (.string R))
 replace S2 := hU (RowT.setCell S2.out K13 (by decide) 2 (.string R))
 replace K13 := K13.set_ 2 (.string R)
 clear r13 f13
 generalize w9.setCell ⟨g13, 2, none⟩ (.string R) = w9 at *
 have K13H := hU (show Blk w9 g13 33 #[.int .i64 1, .int .i64 (LN : Int), .string R, .int .i64 0, .string EM] from K13)
 clear K13
 refine wp_region_held_drew (S := fun w' => Ext w9 w') (by kernel_rfl) (Below.refl _ _).drew (fun hH => ?_)
 generalize w9.drew = wd at *
 refine takeQ 0 (.agg #[.int .i64 1, .int .i64 (LN : Int), .string R, .int .i64 0, .string EM]) (some 57) rfl rfl (by kernel_rfl) (Or.inl ⟨by rfl, ?ya1⟩) hH ?ra1
 case ya1 => intro w' hS'; obtain ⟨r13, f13⟩ := (K13H.out.ext hS').rules; obtain ⟨z0, z1, z2, z3, z4⟩ := cell5 (X.out.next hS') hb4 HC.out; go_simp; try with_reducible rfl
 try simp only [zA]
 refine takeQ 1 (.int .i64 (k : Int)) (some 58) rfl rfl (by kernel_rfl) (Or.inl ⟨by rfl, ?ya2⟩) hH ?ra2
 case ya2 => intro w' hS'; obtain ⟨r13, f13⟩ := (K13H.out.ext hS').rules; obtain ⟨z0, z1, z2, z3, z4⟩ := cell5 (X.out.next hS') hb4 HC.out; go_simp; try with_reducible rfl
 try simp only [zA]
 refine takeQ 2 (.slice (some ⟨b0, off, none⟩) LN cv) (some 59) rfl rfl (by kernel_rfl) (Or.inl ⟨by rfl, ?ya3⟩) hH ?ra3
 case ya3 => intro w' hS'; obtain ⟨r13, f13⟩ := (K13H.out.ext hS').rules; obtain ⟨z0, z1, z2, z3, z4⟩ := cell5 (X.out.next hS') hb4 HC.out; go_simp; try with_reducible rfl
 try simp only [zA]
 refine takeQ 3 (.int .i64 (k : Int)) (some 60) rfl rfl (by kernel_rfl) (Or.inl ⟨by rfl, ?ya4⟩) hH ?ra4
 case ya4 => intro w' hS'; obtain ⟨r13, f13⟩ := (K13H.out.ext hS').rules; obtain ⟨z0, z1, z2, z3, z4⟩ := cell5 (X.out.next hS') hb4 HC.out; go_simp; try with_reducible rfl
 try simp only [zA]
 refine takeQ 4 (.pointer (some ⟨b0, off + k * 5, none⟩)) (some 61) rfl rfl (by kernel_rfl) (Or.inl ⟨by rfl, ?ya5⟩) hH ?ra5
 case ya5 => intro w' hS'; go_simp; try with_reducible rfl
 try simp only [zA]
 refine takeQ 5 (.agg #[.string E.topic, .int .i64 E.index, .int .i64 E.time, .string E.key, .string E.body]) (some 62) rfl rfl (by kernel_rfl) (Or.inl ⟨by rfl, ?ya6⟩) hH ?ra6
 case ya6 => intro w' hS'; obtain ⟨r13, f13⟩ := (K13H.out.ext hS').rules; obtain ⟨z0, z1, z2, z3, z4⟩ := cell5 (X.out.next hS') hb4 HC.out; go_simp; try with_reducible rfl
 try simp only [zA]
 refine takeQ 6 (.slice A2 PN c2) (some 63) rfl rfl (by kernel_rfl) (Or.inl ⟨by rfl, ?ya7⟩) hH ?ra7
 case ya7 => intro w' hS'; obtain ⟨r13, f13⟩ := (K13H.out.ext hS').rules; obtain ⟨z0, z1, z2, z3, z4⟩ := cell5 (X.out.next hS') hb4 HC.out; go_simp; try with_reducible rfl
 try simp only [zA]
 refine takeQ 7 (.agg #[.int .i64 2, .int .i64 0, .int .i64 0, .string ⟨#[]⟩, .int .i64 0, .string ⟨#[]⟩, .int .i64 1, .int .i64 (LN : Int), .string R, .int .i64 0, .string EM, .int .i64 (k : Int), .string E.topic, .int .i64 E.index, .int .i64 E.time, .string E.key, .string E.body, .string ⟨#[]⟩, .string ⟨#[]⟩, .int .i64 0, .slice A2 PN c2, .slice none 0 0]) (some 64) rfl rfl (by kernel_rfl) (Or.inl ⟨by rfl, ?ya8⟩) hH ?ra8
 case ya8 => intro w' hS'; obtain ⟨r13, f13⟩ := (K13H.out.ext hS').rules; obtain ⟨z0, z1, z2, z3, z4⟩ := cell5 (X.out.next hS') hb4 HC.out; go_simp; try with_reducible rfl
 try simp only [zA]
 refine oneH 8 (oi := _) (some 15) (by kernel_rfl) rfl rfl rfl (fun K' hK => ?_)
 refine ⟨?_⟩; rw [if_pos (by rfl)]
 go_simp
 have h1 := Ext.new (Below.refl wd.heap.size wd) (.cells #[.int .i64 0, .int .i64 0, .int .i64 0, .string ⟨#[]⟩, .int .i64 0, .string ⟨#[]⟩, .int .i64 0, .int .i64 0, .string ⟨#[]⟩, .int .i64 0, .string ⟨#[]⟩, .int .i64 0, .string ⟨#[]⟩, .int .i64 0, .int .i64 0, .string ⟨#[]⟩, .string ⟨#[]⟩, .string ⟨#[]⟩, .string ⟨#[]⟩, .int .i64 0, .slice none 0 0, .slice none 0 0] 77)
 have K15 := Blk.new wd 77 #[.int .i64 0, .int .i64 0, .int .i64 0, .string ⟨#[]⟩, .int .i64 0, .string ⟨#[]⟩, .int .i64 0, .int .i64 0, .string ⟨#[]⟩, .int .i64 0, .string ⟨#[]⟩, .int .i64 0, .string ⟨#[]⟩, .int .i64 0, .int .i64 0, .string ⟨#[]⟩, .string ⟨#[]⟩, .string ⟨#[]⟩, .string ⟨#[]⟩, .int .i64 0, .slice none 0 0, .slice none 0 0]
 have hn15 := hH.size
 refine hK.out _ _ ⟨_, rfl⟩ (hH.next h1) (fun hH2 => ?_)
 clear hK K' hH h1
 have hH := hH2
 clear hH2
 try simp only [zB]
 obtain ⟨g15, hgg⟩ : ∃ g15, g15 = wd.heap.size := ⟨_, rfl⟩
 rw [← hgg] at K15 hn15
 rw [← hgg]
 clear hgg
 generalize wd.alloc (.cells #[.int .i64 0, .int .i64 0, .int .i64 0, .string ⟨#[]⟩, .int .i64 0, .string ⟨#[]⟩, .int .i64 0, .int .i64 0, .string ⟨#[]⟩, .int .i64 0, .string ⟨#[]⟩, .int .i64 0, .string ⟨#[]⟩, .int .i64 0, .int .i64 0, .string ⟨#[]⟩, .string ⟨#[]⟩, .string ⟨#[]⟩, .string ⟨#[]⟩, .int .i64 0, .slice none 0 0, .slice none 0 0] 77) = we at *
 refine oneH 9 (oi := _) none (by kernel_rfl) rfl rfl rfl (fun K' hK => ?_)
 refine ⟨?_⟩; rw [if_pos (by rfl)]
 refine wp_store_lst 77 _ _ (by rfl) (by rfl) g15 0 [.int .i64 2, .int .i64 0, .int .i64 0, .string ⟨#[]⟩, .int .i64 0, .string ⟨#[]⟩, .int .i64 1, .int .i64 (LN : Int), .string R, .int .i64 0, .string EM, .int .i64 (k : Int), .string E.topic, .int .i64 E.index, .int .i64 E.time, .string E.key, .string E.body, .string ⟨#[]⟩, .string ⟨#[]⟩, .int .i64 0, .slice A2 PN c2, .slice none 0 0] (by rfl) (by rfl) (K15.there 0 22 (by simp)) (by kernel_rfl) (by rfl) ?_
 have K15H := hU (show Blk (we.setCells g15 0 [.int .i64 2, .int .i64 0, .int .i64 0, .string ⟨#[]⟩, .int .i64 0, .string ⟨#[]⟩, .int .i64 1, .int .i64 (LN : Int), .string R, .int .i64 0, .string EM, .int .i64 (k : Int), .string E.topic, .int .i64 E.index, .int .i64 E.time, .string E.key, .string E.body, .string ⟨#[]⟩, .string ⟨#[]⟩, .int .i64 0, .slice A2 PN c2, .slice none 0 0]) g15 77 #[.int .i64 2, .int .i64 0, .int .i64 0, .string ⟨#[]⟩, .int .i64 0, .string ⟨#[]⟩, .int .i64 1, .int .i64 (LN : Int), .string R, .int .i64 0, .string EM, .int .i64 (k : Int), .string E.topic, .int .i64 E.index, .int .i64 E.time, .string E.key, .string E.body, .string ⟨#[]⟩, .string ⟨#[]⟩, .int .i64 0, .slice A2 PN c2, .slice none 0 0] from put_whole K15 [.int .i64 2, .int .i64 0, .int .i64 0, .string ⟨#[]⟩, .int .i64 0, .string ⟨#[]⟩, .int .i64 1, .int .i64 (LN : Int), .string R, .int .i64 0, .string EM, .int .i64 (k : Int), .string E.topic, .int .i64 E.index, .int .i64 E.time, .string E.key, .string E.body, .string ⟨#[]⟩, .string ⟨#[]⟩, .int .i64 0, .slice A2 PN c2, .slice none 0 0] (by simp))
 have h1 : Ext w9 (we.setCells g15 0 [.int .i64 2, .int .i64 0, .int .i64 0, .string ⟨#[]⟩, .int .i64 0, .string ⟨#[]⟩, .int .i64 1, .int .i64 (LN : Int), .string R, .int .i64 0, .string EM, .int .i64 (k : Int), .string E.topic, .int .i64 E.index, .int .i64 E.time, .string E.key, .string E.body, .string ⟨#[]⟩, .string ⟨#[]⟩, .int .i64 0, .slice A2 PN c2, .slice none 0 0]) := ext_setCells (W := w9) hn15 [.int .i64 2, .int .i64 0, .int .i64 0, .string ⟨#[]⟩, .int .i64 0, .string ⟨#[]⟩, .int .i64 1, .int .i64 (LN : Int), .string R, .int .i64 0, .string EM, .int .i64 (k : Int), .string E.topic, .int .i64 E.index, .int .i64 E.time, .string E.key, .string E.body, .string ⟨#[]⟩, .string ⟨#[]⟩, .int .i64 0, .slice A2 PN c2, .slice none 0 0] 0 _ hH
 refine hK.out _ _ ⟨undef, rfl⟩ (h1) (fun hH2 => ?_)
 clear hK K' hH K15
 have hH := hH2
 clear hH2
 try simp only [zB]
 generalize we.setCells g15 0 [.int .i64 2, .int .i64 0, .int .i64 0, .string ⟨#[]⟩, .int .i64 0, .string ⟨#[]⟩, .int .i64 1, .int .i64 (LN : Int), .string R, .int .i64 0, .string EM, .int .i64 (k : Int), .string E.topic, .int .i64 E.index, .int .i64 E.time, .string E.key, .string E.body, .string ⟨#[]⟩, .string ⟨#[]⟩, .int .i64 0, .slice A2 PN c2, .slice none 0 0] = wf at *
 replace S2 := hU (S2.out.ext hH); replace X := hU (X.out.next hH); replace K13H := hU (K13H.out.ext hH)
 clear hH
 refine wpAnyH_done (by kernel_rfl) ?_ _
 obtain ⟨r13, f13⟩ := K13H.out.rules
 obtain ⟨r6, f6⟩ := (K6H.out.ext X.out).rules
 have KZ := Blk.new wf 77 #[.int .i64 0, .int .i64 0, .int .i64 0, .string ⟨#[]⟩, .int .i64 0, .string ⟨#[]⟩, .int .i64 0, .int .i64 0, .string ⟨#[]⟩, .int .i64 0, .string ⟨#[]⟩, .int .i64 0, .string ⟨#[]⟩, .int .i64 0, .int .i64 0, .string ⟨#[]⟩, .string ⟨#[]⟩, .string ⟨#[]⟩, .string ⟨#[]⟩, .int .i64 0, .slice none 0 0, .slice none 0 0]
 obtain ⟨wh, hwa, K16, hx2⟩ : ∃ wa, wa = (wf.alloc (.cells #[.int .i64 0, .int .i64 0, .int .i64 0, .string ⟨#[]⟩, .int .i64 0, .string ⟨#[]⟩, .int .i64 0, .int .i64 0, .string ⟨#[]⟩, .int .i64 0, .string ⟨#[]⟩, .int .i64 0, .string ⟨#[]⟩, .int .i64 0, .int .i64 0, .string ⟨#[]⟩, .string ⟨#[]⟩, .string ⟨#[]⟩, .string ⟨#[]⟩, .int .i64 0, .slice none 0 0, .slice none 0 0] 77)).setCells wf.heap.size 0 [.int .i64 2, .int .i64 0, .int .i64 0, .string ⟨#[]⟩, .int .i64 0, .string ⟨#[]⟩, .int .i64 1, .int .i64 (LN : Int), .string R, .int .i64 0, .string EM, .int .i64 (k : Int), .string E.topic, .int .i64 E.index, .int .i64 E.time, .string E.key, .string bd, .string ⟨#[]⟩, .string ⟨#[]⟩, .int .i64 0, .slice A2 PN c2, .slice none 0 0] ∧ Blk wa wf.heap.size 77 #[.int .i64 2, .int .i64 0, .int .i64 0, .string ⟨#[]⟩, .int .i64 0, .string ⟨#[]⟩, .int .i64 1, .int .i64 (LN : Int), .string R, .int .i64 0, .string EM, .int .i64 (k : Int), .string E.topic, .int .i64 E.index, .int .i64 E.time, .string E.key, .string bd, .string ⟨#[]⟩, .string ⟨#[]⟩, .int .i64 0, .slice A2 PN c2, .slice none 0 0] ∧ Ext wf wa := ⟨_, rfl, put_whole KZ [.int .i64 2, .int .i64 0, .int .i64 0, .string ⟨#[]⟩, .int .i64 0, .string ⟨#[]⟩, .int .i64 1, .int .i64 (LN : Int), .string R, .int .i64 0, .string EM, .int .i64 (k : Int), .string E.topic, .int .i64 E.index, .int .i64 E.time, .string E.key, .string bd, .string ⟨#[]⟩, .string ⟨#[]⟩, .int .i64 0, .slice A2 PN c2, .slice none 0 0] (by simp), ext_setCells (W := wf) (Nat.le_refl _) [.int .i64 2, .int .i64 0, .int .i64 0, .string ⟨#[]⟩, .int .i64 0, .string ⟨#[]⟩, .int .i64 1, .int .i64 (LN : Int), .string R, .int .i64 0, .string EM, .int .i64 (k : Int), .string E.topic, .int .i64 E.index, .int .i64 E.time, .string E.key, .string bd, .string ⟨#[]⟩, .string ⟨#[]⟩, .int .i64 0, .slice A2 PN c2, .slice none 0 0] 0 _ (Ext.new (Below.refl _ _) _)⟩
 have T4 := hU (show World.there (wf.alloc (.cells #[.int .i64 0, .int .i64 0, .int .i64 0, .string ⟨#[]⟩, .int .i64 0, .string ⟨#[]⟩, .int .i64 0, .int .i64 0, .string ⟨#[]⟩, .int .i64 0, .string ⟨#[]⟩, .int .i64 0, .string ⟨#[]⟩, .int .i64 0, .int .i64 0, .string ⟨#[]⟩, .string ⟨#[]⟩, .string ⟨#[]⟩, .string ⟨#[]⟩, .int .i64 0, .slice none 0 0, .slice none 0 0] 77)) wf.heap.size 0 22 from KZ.there 0 22 (by simp)); have HW := hU hwa
 clear hwa KZ
 replace S2 := hU (S2.out.ext hx2); replace X := hU (X.out.next hx2); replace K15H := hU (K15H.out.ext hx2)
 go_upto_region 13 with (refine wpList_store_list rfl 77 _ _ rfl rfl wf.heap.size 0 [.int .i64 2, .int .i64 0, .int .i64 0, .string ⟨#[]⟩, .int .i64 0, .string ⟨#[]⟩, .int .i64 1, .int .i64 (LN : Int), .string R, .int .i64 0, .string EM, .int .i64 (k : Int), .string E.topic, .int .i64 E.index, .int .i64 E.time, .string E.key, .string bd, .string ⟨#[]⟩, .string ⟨#[]⟩, .int .i64 0, .slice A2 PN c2, .slice none 0 0] rfl rfl T4.out (by kernel_rfl) (by rfl) ?_; rw [← HW.out])
 obtain ⟨g16, hg16⟩ : ∃ g16, g16 = wf.heap.size := ⟨_, rfl⟩
 rw [← hg16] at K16
 rw [← hg16]
 have K16H := hU K16
 clear hg16 T4 HW hx2 K16 r13 f13 r6 f6 K13H
 have CA := hU (fun (W : World) (h : RowT w6.heap.size W (.slice A2 PN c2) QP) => CI.out E A2 c2 W OK1.out LN1.out (SF.out _ W h))
 rw [P1.out] at CA
 have CB : Hid (∀ (W : World), RowT w6.heap.size W (.slice A2 PN c2) QP → Calls Tryz.prog 27 #[.int .i64 (n : Int), .agg #[.int .i64 2, .int .i64 0, .int .i64 0, .string ⟨#[]⟩, .int .i64 0, .string ⟨#[]⟩, .int .i64 1, .int .i64 (LN : Int), .string R, .int .i64 0, .string EM, .int .i64 (k : Int), .string E.topic, .int .i64 E.index, .int .i64 E.time, .string E.key, .string bd, .string ⟨#[]⟩, .string ⟨#[]⟩, .int .i64 0, .slice A2 PN c2, .slice none 0 0]] W fun e w' => e = .returned (.bool (itemOk (n : Int) (twI (n : Int) L k { E with body := bd }))) ∧ Ext W w') := hU (fun W h => CI.out { E with body := bd } A2 c2 W OK2.out LN2.out (SF.out _ W h))
 have CG : Hid (∀ (g : Nat) (W : World), itemOk (n : Int) (twI (n : Int) L k { E with body := bd }) = true → E ≠ { E with body := bd } → Blk W g 77 #[.int .i64 2, .int .i64 0, .int .i64 0, .string ⟨#[]⟩, .int .i64 0, .string ⟨#[]⟩, .int .i64 1, .int .i64 (LN : Int), .string R, .int .i64 0, .string EM, .int .i64 (k : Int), .string E.topic, .int .i64 E.index, .int .i64 E.time, .string E.key, .string E.body, .string ⟨#[]⟩, .string ⟨#[]⟩, .int .i64 0, .slice A2 PN c2, .slice none 0 0, .int .i64 2, .int .i64 0, .int .i64 0, .string ⟨#[]⟩, .int .i64 0, .string ⟨#[]⟩, .int .i64 1, .int .i64 (LN : Int), .string R, .int .i64 0, .string EM, .int .i64 (k : Int), .string E.topic, .int .i64 E.index, .int .i64 E.time, .string E.key, .string bd, .string ⟨#[]⟩, .string ⟨#[]⟩, .int .i64 0, .slice A2 PN c2, .slice none 0 0] → RowT w6.heap.size W (.slice A2 PN c2) QP → Calls Tryz.prog 28 #[.int .i64 (n : Int), .slice (some ⟨g, 0, none⟩) 2 2] W fun e w' => e = .returned (.bool true) ∧ Ext W w') := hU (fun g W h2 hne h5 h6 => CF.out { E with body := bd } g A2 c2 W OK2.out LN2.out (P2.out h2 hne).1 (P2.out h2 hne).2 h5 (SF.out _ W h6))
 obtain ⟨tb, htb⟩ : ∃ tb, tb = itemOk (n : Int) (twI (n : Int) L k { E with body := bd }) := ⟨_, rfl⟩
 rw [← htb] at CB CG
 have Hne : Hid (bd ≠ E.body → E ≠ { E with body := bd }) := hU (fun h e => h (by rw [e]))
 clear CI CF OK1 LN1 OK2 LN2 P1 P2 htb SF HPN HPL HN
 have R15 := hU (Blk.range K15H.out)
 go_wp2_with (refine wpList_load_want (by rfl) 77 _ rfl g15 0 rfl [.int .i64 2, .int .i64 0, .int .i64 0, .string ⟨#[]⟩, .int .i64 0, .string ⟨#[]⟩, .int .i64 1, .int .i64 (LN : Int), .string R, .int .i64 0, .string EM, .int .i64 (k : Int), .string E.topic, .int .i64 E.index, .int .i64 E.time, .string E.key, .string E.body, .string ⟨#[]⟩, .string ⟨#[]⟩, .int .i64 0, .slice A2 PN c2, .slice none 0 0] _ R15.out Tryz.underlying77 rfl (by kernel_rfl) ?_)
 refine (CA.out _ S2.out).mono ?_
 rintro e wi ⟨rfl, h1⟩
 replace S2 := hU (S2.out.ext h1); replace X := hU (X.out.next h1); replace K15H := hU (K15H.out.ext h1); replace K16H := hU (K16H.out.ext h1)
 clear h1 CA R15
 go_upto_region 15 with fail
 cases tb
 case false =>
  refine wp_region_held_drew (S := fun w' => Ext wi w') (by kernel_rfl) (Below.refl _ _).drew (fun hH => ?_)
  refine wpAnyH_take (i := 1) (oi := _) (v := _) rfl (by kernel_rfl) (by kernel_rfl) (by kernel_rfl) (fun _ _ _ h => h) (yieldsIf_load_mid (by rfl) 77 _ rfl g16 0 rfl [.int .i64 2, .int .i64 0, .int .i64 0, .string ⟨#[]⟩, .int .i64 0, .string ⟨#[]⟩, .int .i64 1, .int .i64 (LN : Int), .string R, .int .i64 0, .string EM, .int .i64 (k : Int), .string E.topic, .int .i64 E.index, .int .i64 E.time, .string E.key, .string bd, .string ⟨#[]⟩, .string ⟨#[]⟩, .int .i64 0, .slice A2 PN c2, .slice none 0 0] _ (fun w' h => Blk.range (K16H.out.ext h)) Tryz.underlying77 rfl (by kernel_rfl)) hH ?_
  try simp only [zB]
  refine takeQ 0 (.int .i64 (n : Int)) (some 90) rfl rfl (by kernel_rfl) (Or.inl ⟨by rfl, ?yc1⟩) hH ?rc1
  case yc1 => intro w' hS'; obtain ⟨r6, f6⟩ := (K6H.out.ext (X.out.next hS')).rules; obtain ⟨z0, z1, z2, z3, z4⟩ := cell5 (X.out.next hS') hb4 HC.out; go_simp; try with_reducible rfl
  try simp only [zA]
  refine oneH 2 (oi := _) (some 92) (by kernel_rfl) rfl rfl rfl (fun K' hK => ?_)
  refine ⟨?_⟩
  rw [if_pos (by rfl)]
  go_simp
  refine (CB.out _ (S2.out.ext hH)).mono ?_
  rintro e wj ⟨rfl, h1⟩
  refine hK.out _ _ ⟨_, rfl⟩ (hH.next h1) (fun hH2 => ?_)
  clear hK K' hH h1
  have hH := hH2
  clear hH2
  try simp only [zB]
  refine takeQ 3 (.bool true) (some 93) rfl rfl (by kernel_rfl) (Or.inl ⟨by rfl, ?yc2⟩) hH ?rc2
  case yc2 => intro w' hS'; go_simp; try with_reducible rfl
  try simp only [zA]
  refine takeQ 4 (.bool true) (some 94) rfl rfl (by kernel_rfl) (Or.inl ⟨by rfl, ?yc3⟩) hH ?rc3
  case yc3 => intro w' hS'; go_simp; try with_reducible rfl
  try simp only [zA]
  refine takeQ 5 (undef) (some 95) rfl rfl (by kernel_rfl) (Or.inr ⟨by go_simp; try (intro h; cases h), rfl⟩) hH ?rc4
  try simp only [zB]
  refine takeQ 6 (undef) (some 96) rfl rfl (by kernel_rfl) (Or.inr ⟨by go_simp; try (intro h; cases h), rfl⟩) hH ?rc5
  try simp only [zB]
  refine takeQ 7 (undef) (some 97) rfl rfl (by kernel_rfl) (Or.inr ⟨by go_simp; try (intro h; cases h), rfl⟩) hH ?rc6
  try simp only [zB]
  refine takeQ 8 (undef) (some 98) rfl rfl (by kernel_rfl) (Or.inr ⟨by go_simp; try (intro h; cases h), rfl⟩) hH ?rc7
  try simp only [zB]
  refine takeQ 9 (undef) (some 99) rfl rfl (by kernel_rfl) (Or.inr ⟨by go_simp; try (intro h; cases h), rfl⟩) hH ?rc8
  try simp only [zB]
  refine takeQ 10 (undef) (some 100) rfl rfl (by kernel_rfl) (Or.inr ⟨by go_simp; try (intro h; cases h), rfl⟩) hH ?rc9
  try simp only [zB]
  refine takeQ 11 (.bool true) (some 101) rfl rfl (by kernel_rfl) (Or.inl ⟨by rfl, ?yc10⟩) hH ?rc10
  case yc10 => intro w' hS'; go_simp; try with_reducible rfl
  try simp only [zA]
  have h1 := hH
  clear hH
  refine wpAnyH_done (by kernel_rfl) ?_ _
  have X2 := HE.out.next (X.out.next h1)
  clear h1 S2 K15H K16H X
  go_wp2_with fail
  go_ret
  exact ⟨rfl, X2⟩
 by_cases hbq : bd = E.body
 · have q1 : (bd.toList == E.body.toList) = true := by rw [hbq]; simp
   clear hbq
   refine wp_region_held_drew (S := fun w' => Ext wi w') (by kernel_rfl) (Below.refl _ _).drew (fun hH => ?_)
   refine wpAnyH_take (i := 1) (oi := _) (v := _) rfl (by kernel_rfl) (by kernel_rfl) (by kernel_rfl) (fun _ _ _ h => h) (yieldsIf_load_mid (by rfl) 77 _ rfl g16 0 rfl [.int .i64 2, .int .i64 0, .int .i64 0, .string ⟨#[]⟩, .int .i64 0, .string ⟨#[]⟩, .int .i64 1, .int .i64 (LN : Int), .string R, .int .i64 0, .string EM, .int .i64 (k : Int), .string E.topic, .int .i64 E.index, .int .i64 E.time, .string E.key, .string bd, .string ⟨#[]⟩, .string ⟨#[]⟩, .int .i64 0, .slice A2 PN c2, .slice none 0 0] _ (fun w' h => Blk.range (K16H.out.ext h)) Tryz.underlying77 rfl (by kernel_rfl)) hH ?_
   try simp only [zB]
   refine takeQ 0 (.int .i64 (n : Int)) (some 90) rfl rfl (by kernel_rfl) (Or.inl ⟨by rfl, ?yd1⟩) hH ?rd1
   case yd1 => intro w' hS'; obtain ⟨r6, f6⟩ := (K6H.out.ext (X.out.next hS')).rules; obtain ⟨z0, z1, z2, z3, z4⟩ := cell5 (X.out.next hS') hb4 HC.out; go_simp; try with_reducible rfl
   try simp only [zA]
   refine oneH 2 (oi := _) (some 92) (by kernel_rfl) rfl rfl rfl (fun K' hK => ?_)
   refine ⟨?_⟩
   rw [if_pos (by rfl)]
   go_simp
   refine (CB.out _ (S2.out.ext hH)).mono ?_
   rintro e wj ⟨rfl, h1⟩
   refine hK.out _ _ ⟨_, rfl⟩ (hH.next h1) (fun hH2 => ?_)
   clear hK K' hH h1
   have hH := hH2
   clear hH2
   try simp only [zB]
   refine takeQ 3 (.bool false) (some 93) rfl rfl (by kernel_rfl) (Or.inl ⟨by rfl, ?yd2⟩) hH ?rd2
   case yd2 => intro w' hS'; go_simp; try with_reducible rfl
   try simp only [zA]
   refine takeQ 4 (.bool false) (some 94) rfl rfl (by kernel_rfl) (Or.inl ⟨by rfl, ?yd3⟩) hH ?rd3
   case yd3 => intro w' hS'; go_simp; try with_reducible rfl
   try simp only [zA]
   refine takeQ 5 (.agg #[.string E.topic, .int .i64 E.index, .int .i64 E.time, .string E.key, .string bd]) (some 95) rfl rfl (by kernel_rfl) (Or.inl ⟨by rfl, ?yd4⟩) hH ?rd4
   case yd4 => intro w' hS'; obtain ⟨r6, f6⟩ := (K6H.out.ext (X.out.next hS')).rules; obtain ⟨z0, z1, z2, z3, z4⟩ := cell5 (X.out.next hS') hb4 HC.out; go_simp; try with_reducible rfl
   try simp only [zA]
   refine takeQ 6 (.slice (some ⟨b0, off, none⟩) LN cv) (some 96) rfl rfl (by kernel_rfl) (Or.inl ⟨by rfl, ?yd5⟩) hH ?rd5
   case yd5 => intro w' hS'; obtain ⟨r6, f6⟩ := (K6H.out.ext (X.out.next hS')).rules; obtain ⟨z0, z1, z2, z3, z4⟩ := cell5 (X.out.next hS') hb4 HC.out; go_simp; try with_reducible rfl
   try simp only [zA]
   refine takeQ 7 (.int .i64 (k : Int)) (some 97) rfl rfl (by kernel_rfl) (Or.inl ⟨by rfl, ?yd6⟩) hH ?rd6
   case yd6 => intro w' hS'; obtain ⟨r6, f6⟩ := (K6H.out.ext (X.out.next hS')).rules; obtain ⟨z0, z1, z2, z3, z4⟩ := cell5 (X.out.next hS') hb4 HC.out; go_simp; try with_reducible rfl
   try simp only [zA]
   refine takeQ 8 (.pointer (some ⟨b0, off + k * 5, none⟩)) (some 98) rfl rfl (by kernel_rfl) (Or.inl ⟨by rfl, ?yd7⟩) hH ?rd7
   case yd7 => intro w' hS'; go_simp; try with_reducible rfl
   try simp only [zA]
   refine takeQ 9 (.agg #[.string E.topic, .int .i64 E.index, .int .i64 E.time, .string E.key, .string E.body]) (some 99) rfl rfl (by kernel_rfl) (Or.inl ⟨by rfl, ?yd8⟩) hH ?rd8
   case yd8 => intro w' hS'; obtain ⟨r6, f6⟩ := (K6H.out.ext (X.out.next hS')).rules; obtain ⟨z0, z1, z2, z3, z4⟩ := cell5 (X.out.next hS') hb4 HC.out; go_simp; try with_reducible rfl
   try simp only [zA]
   refine takeQ 10 (.bool true) (some 100) rfl rfl (by kernel_rfl) (Or.inl ⟨by rfl, ?yd9⟩) hH ?rd9
   case yd9 => intro w' hS'; go_simp; try with_reducible rfl
   try simp only [zA]
   refine takeQ 11 (.bool true) (some 101) rfl rfl (by kernel_rfl) (Or.inl ⟨by rfl, ?yd10⟩) hH ?rd10
   case yd10 => intro w' hS'; go_simp; try with_reducible rfl
   try simp only [zA]
   have h1 := hH
   clear hH
   refine wpAnyH_done (by kernel_rfl) ?_ _
   have X2 := HE.out.next (X.out.next h1)
   clear h1 S2 K15H K16H X
   go_wp2_with fail
   go_ret
   exact ⟨rfl, X2⟩
 have q1 : (bd.toList == E.body.toList) = false := by simp [bytes_eq_iff, hbq]
 have HBQ := hU hbq
 clear hbq
 refine wp_region_held_drew (S := fun w' => Ext wi w') (by kernel_rfl) (Below.refl _ _).drew (fun hH => ?_)
 refine wpAnyH_take (i := 1) (oi := _) (v := _) rfl (by kernel_rfl) (by kernel_rfl) (by kernel_rfl) (fun _ _ _ h => h) (yieldsIf_load_mid (by rfl) 77 _ rfl g16 0 rfl [.int .i64 2, .int .i64 0, .int .i64 0, .string ⟨#[]⟩, .int .i64 0, .string ⟨#[]⟩, .int .i64 1, .int .i64 (LN : Int), .string R, .int .i64 0, .string EM, .int .i64 (k : Int), .string E.topic, .int .i64 E.index, .int .i64 E.time, .string E.key, .string bd, .string ⟨#[]⟩, .string ⟨#[]⟩, .int .i64 0, .slice A2 PN c2, .slice none 0 0] _ (fun w' h => Blk.range (K16H.out.ext h)) Tryz.underlying77 rfl (by kernel_rfl)) hH ?_
 try simp only [zB]
 refine takeQ 0 (.int .i64 (n : Int)) (some 90) rfl rfl (by kernel_rfl) (Or.inl ⟨by rfl, ?ye1⟩) hH ?re1
 case ye1 => intro w' hS'; obtain ⟨r6, f6⟩ := (K6H.out.ext (X.out.next hS')).rules; obtain ⟨z0, z1, z2, z3, z4⟩ := cell5 (X.out.next hS') hb4 HC.out; go_simp; try with_reducible rfl
 try simp only [zA]
 refine oneH 2 (oi := _) (some 92) (by kernel_rfl) rfl rfl rfl (fun K' hK => ?_)
 refine ⟨?_⟩
 rw [if_pos (by rfl)]
 go_simp
 refine (CB.out _ (S2.out.ext hH)).mono ?_
 rintro e wj ⟨rfl, h1⟩
 refine hK.out _ _ ⟨_, rfl⟩ (hH.next h1) (fun hH2 => ?_)
 clear hK K' hH h1
 have hH := hH2
 clear hH2
 try simp only [zB]
 refine takeQ 3 (.bool false) (some 93) rfl rfl (by kernel_rfl) (Or.inl ⟨by rfl, ?ye2⟩) hH ?re2
 case ye2 => intro w' hS'; go_simp; try with_reducible rfl
 try simp only [zA]
 refine takeQ 4 (.bool false) (some 94) rfl rfl (by kernel_rfl) (Or.inl ⟨by rfl, ?ye3⟩) hH ?re3
 case ye3 => intro w' hS'; go_simp; try with_reducible rfl
 try simp only [zA]
 refine takeQ 5 (.agg #[.string E.topic, .int .i64 E.index, .int .i64 E.time, .string E.key, .string bd]) (some 95) rfl rfl (by kernel_rfl) (Or.inl ⟨by rfl, ?ye4⟩) hH ?re4
 case ye4 => intro w' hS'; obtain ⟨r6, f6⟩ := (K6H.out.ext (X.out.next hS')).rules; obtain ⟨z0, z1, z2, z3, z4⟩ := cell5 (X.out.next hS') hb4 HC.out; go_simp; try with_reducible rfl
 try simp only [zA]
 refine takeQ 6 (.slice (some ⟨b0, off, none⟩) LN cv) (some 96) rfl rfl (by kernel_rfl) (Or.inl ⟨by rfl, ?ye5⟩) hH ?re5
 case ye5 => intro w' hS'; obtain ⟨r6, f6⟩ := (K6H.out.ext (X.out.next hS')).rules; obtain ⟨z0, z1, z2, z3, z4⟩ := cell5 (X.out.next hS') hb4 HC.out; go_simp; try with_reducible rfl
 try simp only [zA]
 refine takeQ 7 (.int .i64 (k : Int)) (some 97) rfl rfl (by kernel_rfl) (Or.inl ⟨by rfl, ?ye6⟩) hH ?re6
 case ye6 => intro w' hS'; obtain ⟨r6, f6⟩ := (K6H.out.ext (X.out.next hS')).rules; obtain ⟨z0, z1, z2, z3, z4⟩ := cell5 (X.out.next hS') hb4 HC.out; go_simp; try with_reducible rfl
 try simp only [zA]
 refine takeQ 8 (.pointer (some ⟨b0, off + k * 5, none⟩)) (some 98) rfl rfl (by kernel_rfl) (Or.inl ⟨by rfl, ?ye7⟩) hH ?re7
 case ye7 => intro w' hS'; go_simp; try with_reducible rfl
 try simp only [zA]
 refine takeQ 9 (.agg #[.string E.topic, .int .i64 E.index, .int .i64 E.time, .string E.key, .string E.body]) (some 99) rfl rfl (by kernel_rfl) (Or.inl ⟨by rfl, ?ye8⟩) hH ?re8
 case ye8 => intro w' hS'; obtain ⟨r6, f6⟩ := (K6H.out.ext (X.out.next hS')).rules; obtain ⟨z0, z1, z2, z3, z4⟩ := cell5 (X.out.next hS') hb4 HC.out; go_simp; try with_reducible rfl
 try simp only [zA]
 refine takeQ 10 (.bool false) (some 100) rfl rfl (by kernel_rfl) (Or.inl ⟨by rfl, ?ye9⟩) hH ?re9
 case ye9 => intro w' hS'; go_simp; try with_reducible rfl
 try simp only [zA]
 refine takeQ 11 (.bool false) (some 101) rfl rfl (by kernel_rfl) (Or.inl ⟨by rfl, ?ye10⟩) hH ?re10
 case ye10 => intro w' hS'; go_simp; try with_reducible rfl
 try simp only [zA]
 have h1 := hH
 clear hH
 refine wpAnyH_done (by kernel_rfl) ?_ _
 replace S2 := hU (S2.out.ext h1); replace X := hU (X.out.next h1); replace K15H := hU (K15H.out.ext h1); replace K16H := hU (K16H.out.ext h1)
 clear h1
 have BS : ∀ W : World, (Instr.buildSlice 80 2 #[(0, .agg #[.int .i64 2, .int .i64 0, .int .i64 0, .string ⟨#[]⟩, .int .i64 0, .string ⟨#[]⟩, .int .i64 1, .int .i64 (LN : Int), .string R, .int .i64 0, .string EM, .int .i64 (k : Int), .string E.topic, .int .i64 E.index, .int .i64 E.time, .string E.key, .string E.body, .string ⟨#[]⟩, .string ⟨#[]⟩, .int .i64 0, .slice A2 PN c2, .slice none 0 0]), (1, .agg #[.int .i64 2, .int .i64 0, .int .i64 0, .string ⟨#[]⟩, .int .i64 0, .string ⟨#[]⟩, .int .i64 1, .int .i64 (LN : Int), .string R, .int .i64 0, .string EM, .int .i64 (k : Int), .string E.topic, .int .i64 E.index, .int .i64 E.time, .string E.key, .string bd, .string ⟨#[]⟩, .string ⟨#[]⟩, .int .i64 0, .slice A2 PN c2, .slice none 0 0])]).run Tryz.prog W = .ok (.slice (some ⟨W.heap.size, 0, none⟩) 2 2) (W.alloc (.cells #[.int .i64 2, .int .i64 0, .int .i64 0, .string ⟨#[]⟩, .int .i64 0, .string ⟨#[]⟩, .int .i64 1, .int .i64 (LN : Int), .string R, .int .i64 0, .string EM, .int .i64 (k : Int), .string E.topic, .int .i64 E.index, .int .i64 E.time, .string E.key, .string E.body, .string ⟨#[]⟩, .string ⟨#[]⟩, .int .i64 0, .slice A2 PN c2, .slice none 0 0, .int .i64 2, .int .i64 0, .int .i64 0, .string ⟨#[]⟩, .int .i64 0, .string ⟨#[]⟩, .int .i64 1, .int .i64 (LN : Int), .string R, .int .i64 0, .string EM, .int .i64 (k : Int), .string E.topic, .int .i64 E.index, .int .i64 E.time, .string E.key, .string bd, .string ⟨#[]⟩, .string ⟨#[]⟩, .int .i64 0, .slice A2 PN c2, .slice none 0 0] 77)) := fun _ => by kernel_rfl
 have R15 := hU (Blk.range K15H.out)
 have R16 := hU (Blk.range K16H.out)
 have KB := hU (Blk.new wj 77 #[.int .i64 2, .int .i64 0, .int .i64 0, .string ⟨#[]⟩, .int .i64 0, .string ⟨#[]⟩, .int .i64 1, .int .i64 (LN : Int), .string R, .int .i64 0, .string EM, .int .i64 (k : Int), .string E.topic, .int .i64 E.index, .int .i64 E.time, .string E.key, .string E.body, .string ⟨#[]⟩, .string ⟨#[]⟩, .int .i64 0, .slice A2 PN c2, .slice none 0 0, .int .i64 2, .int .i64 0, .int .i64 0, .string ⟨#[]⟩, .int .i64 0, .string ⟨#[]⟩, .int .i64 1, .int .i64 (LN : Int), .string R, .int .i64 0, .string EM, .int .i64 (k : Int), .string E.topic, .int .i64 E.index, .int .i64 E.time, .string E.key, .string bd, .string ⟨#[]⟩, .string ⟨#[]⟩, .int .i64 0, .slice A2 PN c2, .slice none 0 0])
 have hx := Ext.new (Below.refl wj.heap.size wj) (.cells #[.int .i64 2, .int .i64 0, .int .i64 0, .string ⟨#[]⟩, .int .i64 0, .string ⟨#[]⟩, .int .i64 1, .int .i64 (LN : Int), .string R, .int .i64 0, .string EM, .int .i64 (k : Int), .string E.topic, .int .i64 E.index, .int .i64 E.time, .string E.key, .string E.body, .string ⟨#[]⟩, .string ⟨#[]⟩, .int .i64 0, .slice A2 PN c2, .slice none 0 0, .int .i64 2, .int .i64 0, .int .i64 0, .string ⟨#[]⟩, .int .i64 0, .string ⟨#[]⟩, .int .i64 1, .int .i64 (LN : Int), .string R, .int .i64 0, .string EM, .int .i64 (k : Int), .string E.topic, .int .i64 E.index, .int .i64 E.time, .string E.key, .string bd, .string ⟨#[]⟩, .string ⟨#[]⟩, .int .i64 0, .slice A2 PN c2, .slice none 0 0] 77)
 have CZ := hU (CG.out wj.heap.size (wj.alloc (.cells #[.int .i64 2, .int .i64 0, .int .i64 0, .string ⟨#[]⟩, .int .i64 0, .string ⟨#[]⟩, .int .i64 1, .int .i64 (LN : Int), .string R, .int .i64 0, .string EM, .int .i64 (k : Int), .string E.topic, .int .i64 E.index, .int .i64 E.time, .string E.key, .string E.body, .string ⟨#[]⟩, .string ⟨#[]⟩, .int .i64 0, .slice A2 PN c2, .slice none 0 0, .int .i64 2, .int .i64 0, .int .i64 0, .string ⟨#[]⟩, .int .i64 0, .string ⟨#[]⟩, .int .i64 1, .int .i64 (LN : Int), .string R, .int .i64 0, .string EM, .int .i64 (k : Int), .string E.topic, .int .i64 E.index, .int .i64 E.time, .string E.key, .string bd, .string ⟨#[]⟩, .string ⟨#[]⟩, .int .i64 0, .slice A2 PN c2, .slice none 0 0] 77)) rfl (Hne.out HBQ.out) KB.out (S2.out.ext hx))
 have X2 := hU (HE.out.next (X.out.next hx))
 clear hx KB CG S2 X
 go_wp2_with (first | (refine wpList_load_mid rfl 77 _ rfl g15 0 rfl [.int .i64 2, .int .i64 0, .int .i64 0, .string ⟨#[]⟩, .int .i64 0, .string ⟨#[]⟩, .int .i64 1, .int .i64 (LN : Int), .string R, .int .i64 0, .string EM, .int .i64 (k : Int), .string E.topic, .int .i64 E.index, .int .i64 E.time, .string E.key, .string E.body, .string ⟨#[]⟩, .string ⟨#[]⟩, .int .i64 0, .slice A2 PN c2, .slice none 0 0] _ R15.out Tryz.underlying77 rfl (by kernel_rfl) ?_) | (refine wpList_load_mid rfl 77 _ rfl g16 0 rfl [.int .i64 2, .int .i64 0, .int .i64 0, .string ⟨#[]⟩, .int .i64 0, .string ⟨#[]⟩, .int .i64 1, .int .i64 (LN : Int), .string R, .int .i64 0, .string EM, .int .i64 (k : Int), .string E.topic, .int .i64 E.index, .int .i64 E.time, .string E.key, .string bd, .string ⟨#[]⟩, .string ⟨#[]⟩, .int .i64 0, .slice A2 PN c2, .slice none 0 0] _ R16.out Tryz.underlying77 rfl (by kernel_rfl) ?_))
 refine CZ.out.mono ?_
 rintro e wk ⟨rfl, h1⟩
 go_wp2_with fail
 go_ret
 exact ⟨rfl, X2.out.next h1⟩
end Go.Proofs.YtgeengkdgdjcjaaGreat
