/-
  SpFile: No condition.
-/
import Derived.Test.YthnpdoadmglipaaGreatTextsB
import Derived.Test.YthnpdoadmglipaaGreatStoreL
namespace Go.Proofs.YthnpdoadmglipaaGreat
set_option maxHeartbeats 8000000
set_option maxRecDepth 100000
set_option linter.unusedSimpArgs false
open Go.RowKit
set_option linter.unusedVariables false
theorem l12File_any (b : BrokerD) (f : Nat) (hf : f < 3) (A0 : Option Addr) (a0 : Nat) (A1 : Option Addr) (a1 : Nat) (A2 : Option Addr) (a2 : Nat) (A3 : Option Addr) (a3 : Nat) (A4 : Option Addr) (a4 : Nat) (w : World) (s : BArg AnyB w b A0 a0 A1 a1 A2 a2 A3 a3 A4 a4) (hk : TxOk b) (hn : (fileT b f).length ≤ 1048576) (hs : ∀ t ∈ fileT b f, t.size ≤ maxLen) :
 Calls Tryz.prog 139 #[.agg (brkV b A0 a0 A1 a1 A2 a2 A3 a3 A4 a4).toArray, .int .i64 (f : Int)] w fun e w' => e = .returned (.string (framesOut (fileT b f))) ∧ Ext w w' := by
 obtain ⟨i0, hi, hz0, hz1, hz2⟩ := info_parts infS
 have B0 := (Blk.new w 37 (brkV b A0 a0 A1 a1 A2 a2 A3 a3 A4 a4).toArray)
 have he := (Ext.new (Below.refl w.heap.size w) (.cells (brkV b A0 a0 A1 a1 A2 a2 A3 a3 A4 a4).toArray 37))
 have S0 := hU s; have HK := hU hk; have HN := hU hn; have HS := hU hs
 obtain ⟨n0, hn0⟩ : ∃ n0, n0 = b.log.entries.length := ⟨_, rfl⟩
 obtain ⟨n1, hn1⟩ : ∃ n1, n1 = b.heads.length := ⟨_, rfl⟩
 obtain ⟨n2, hn2⟩ : ∃ n2, n2 = b.receipts.length := ⟨_, rfl⟩
 obtain ⟨cs, hcs⟩ : ∃ cs, cs = (brkV b A0 a0 A1 a1 A2 a2 A3 a3 A4 a4) := ⟨_, rfl⟩
 have BH : ∀ (W : World) (g : Nat), Blk W g 37 cs.toArray → W.cell? ⟨g, 0, none⟩ = some (.int .i64 b.width) ∧ W.cell? ⟨g, 1, none⟩ = some (.slice A0 n0 a0) ∧ W.cell? ⟨g, 2, none⟩ = some (.slice A1 n2 a1) ∧ W.cell? ⟨g, 3, none⟩ = some (.slice A2 n1 a2) := fun W g h => by
  rw [hcs] at h
  rw [hn0, hn1, hn2]
  exact ⟨h.cell 0, h.cell 1, h.cell 2, h.cell 3⟩
 have BH := hU BH
 have l0 := hk.n.e; have l1 := hk.n.h; have l2 := hk.n.r; have lh0 := hk.h
 rw [← hn0] at l0
 rw [← hn1] at l1 lh0
 rw [← hn2] at l2
 have N0 := hU hn0; have N1 := hU hn1; have N2 := hU hn2
 rw [← hcs] at B0 he
 rw [← hcs]
 clear s hk hn hs hn0 hn1 hn2 hcs
 obtain ⟨T0, hT0⟩ : ∃ T0, T0 = (if f = 0 then textsE b else []) := ⟨_, rfl⟩
 obtain ⟨T1, hT1⟩ : ∃ T1, T1 = (if f = 1 then textsH b else []) := ⟨_, rfl⟩
 obtain ⟨T2, hT2⟩ : ∃ T2, T2 = (if f = 2 then textsR b else []) := ⟨_, rfl⟩
 have hFT : fileT b f = T0 ++ T1 ++ T2 := by rw [hT0, hT1, hT2]; rfl
 have HT0 := hU hT0; have HT1 := hU hT1; have HT2 := hU hT2; have HFT := hU hFT
 have t0 : T0.length ≤ 1048576 := by have h := HN.out; rw [hFT] at h; simp only [List.length_append] at h; omega
 have t1 : T0.length + T1.length ≤ 1048576 := by have h := HN.out; rw [hFT] at h; simp only [List.length_append] at h; omega
 have t2 : T0.length + T1.length + T2.length ≤ 1048576 := by have h := HN.out; rw [hFT] at h; simp only [List.length_append] at h; omega
 clear hT0 hT1 hT2 hFT
 obtain ⟨x0, x1, x2, x3⟩ := BH.out _ _ B0
 go_enter Tryz.func139, Tryz.ntmps139
 go_upto_region 1 with fail
 obtain ⟨g, hg⟩ : ∃ g, g = w.heap.size := ⟨_, rfl⟩
 rw [← hg] at B0
 rw [← hg]
 have hgw : w.heap.size ≤ g := by omega
 clear hg x0 x1 x2 x3
 generalize w.alloc (.cells cs.toArray 37) = w1 at *
 have OE := ownsRow_empty w1 9 1
 have hg1 := B0.lt
 replace OE := ownsRow_base (B' := g + 1) OE (by omega)
 have h2 := Ext.new (Below.refl w1.heap.size w1) (.cells #[] 9)
 have BX := hU (B0.ext h2); have HE := hU (he.next h2); have OX := hU OE
 clear B0 he h2 OE
 go_wp2_with fail
 go_loopw [5, 6] (fun v i wr => ∃ (k m : Nat) (V : Option Addr) (cv : Nat), k ≤ T0.length ∧ m = k + 0 ∧ i = .int .i64 m ∧ v = .slice V (k) cv ∧ Blk wr g 37 cs.toArray ∧ wr.ownsRow (g + 1) 9 1 (.slice V (k) cv) (k) ((T0.take k).flatMap sone) ∧ Ext w wr) (fun _ i _ => n0 + 1 - (intOf i).toNat)
 case atStart => exact ⟨0, 0, _, _, Nat.zero_le _, rfl, rfl, rfl, BX.out, by simpa using OX.out, HE.out⟩
 case round =>
  clear BX OX HE
  obtain ⟨k, m, V, cv, hk, hm, rfl, rfl, bx, ko, he⟩ := hrel
  have HM := hU hm
  have NX := hU (show f = 0 → T0.length + 0 = n0 from fun e => by
   rw [HT0.out, if_pos e]; rw [textsE, List.length_map]; have h1 := N0.out; omega)
  have NF := hU (show ¬ f = 0 → T0.length = 0 from fun e => by rw [HT0.out, if_neg e]; rfl)
  obtain ⟨x0, x1, x2, x3⟩ := BH.out _ _ bx
  by_cases hlt : k < T0.length
  case neg =>
   obtain rfl : k = T0.length := by omega
   rw [List.take_length] at ko
   have HQ := hU (show ¬ m < n0 ∨ ¬ f = 0 from by
    by_cases e : f = 0
    · exact .inl (by have h1 := NX.out e; omega)
    · exact .inr e)
   clear hm hlt hk
   go_upto_region 3 with fail
   go_cut [27] from 18 to 27 (fun vx wx => vx = .bool false ∧ wx = wr)
   case first =>
    by_cases hlt : m < n0
    · have ff : ((f : Int) == 0) = false := beq_false_of_ne (by have h1 := HQ.out; omega)
      go_wp2_with fail
      go_meet
      case rel => exact ⟨rfl, rfl⟩
    · go_wp2_with fail
      go_meet
      case rel => exact ⟨rfl, rfl⟩
   case rest =>
   obtain ⟨rfl, hwx⟩ := hcut
   subst hwx
   have BX := hU bx; have HE := hU he
   have OX : Hid (_) := hU ko
   clear bx ko he HQ NX NF HM x0 x1 x2 x3
   go_wp2_with fail
   go_loopw [5, 9] (fun v i wr => ∃ (k m : Nat) (V : Option Addr) (cv : Nat), k ≤ T1.length ∧ m = k + 1 ∧ i = .int .i64 m ∧ v = .slice V (T0.length + k) cv ∧ Blk wr g 37 cs.toArray ∧ wr.ownsRow (g + 1) 9 1 (.slice V (T0.length + k) cv) (T0.length + k) ((T0 ++ T1.take k).flatMap sone) ∧ Ext w wr) (fun _ i _ => n1 + 1 - (intOf i).toNat)
   case atStart => exact ⟨0, 1, _, _, Nat.zero_le _, rfl, rfl, rfl, BX.out, by simpa using OX.out, HE.out⟩
   case round =>
    clear BX OX HE
    obtain ⟨k, m, V, cv, hk, hm, rfl, rfl, bx, ko, he⟩ := hrel
    have HM := hU hm
    have NX := hU (show f = 1 → T1.length + 1 = n1 from fun e => by
     rw [HT1.out, if_pos e]; rw [textsH, List.length_map, List.length_drop]; have h1 := N1.out; omega)
    have NF := hU (show ¬ f = 1 → T1.length = 0 from fun e => by rw [HT1.out, if_neg e]; rfl)
    obtain ⟨x0, x1, x2, x3⟩ := BH.out _ _ bx
    by_cases hlt : k < T1.length
    case neg =>
     obtain rfl : k = T1.length := by omega
     rw [List.take_length] at ko
     have HQ := hU (show ¬ m < n1 ∨ ¬ f = 1 from by
      by_cases e : f = 1
      · exact .inl (by have h1 := NX.out e; omega)
      · exact .inr e)
     clear hm hlt hk
     go_upto_region 8 with fail
     go_cut [52] from 44 to 52 (fun vx wx => vx = .bool false ∧ wx = wr)
     case first =>
      by_cases hlt : m < n1
      · have ff : ((f : Int) == 1) = false := beq_false_of_ne (by have h1 := HQ.out; omega)
        go_wp2_with fail
        go_meet
        case rel => exact ⟨rfl, rfl⟩
      · go_wp2_with fail
        go_meet
        case rel => exact ⟨rfl, rfl⟩
     case rest =>
     obtain ⟨rfl, hwx⟩ := hcut
     subst hwx
     have BX := hU bx; have HE := hU he
     have OX : Hid (_) := hU ko
     clear bx ko he HQ NX NF HM x0 x1 x2 x3
     go_wp2_with fail
     go_loopw [5, 12] (fun v i wr => ∃ (k m : Nat) (V : Option Addr) (cv : Nat), k ≤ T2.length ∧ m = k + 0 ∧ i = .int .i64 m ∧ v = .slice V (T0.length + T1.length + k) cv ∧ Blk wr g 37 cs.toArray ∧ wr.ownsRow (g + 1) 9 1 (.slice V (T0.length + T1.length + k) cv) (T0.length + T1.length + k) ((T0 ++ T1 ++ T2.take k).flatMap sone) ∧ Ext w wr) (fun _ i _ => n2 + 1 - (intOf i).toNat)
     case atStart => exact ⟨0, 0, _, _, Nat.zero_le _, rfl, rfl, rfl, BX.out, by simpa using OX.out, HE.out⟩
     case round =>
      clear BX OX HE
      obtain ⟨k, m, V, cv, hk, hm, rfl, rfl, bx, ko, he⟩ := hrel
      have HM := hU hm
      have NX := hU (show f = 2 → T2.length + 0 = n2 from fun e => by
       rw [HT2.out, if_pos e]; rw [textsR, List.length_map]; have h1 := N2.out; omega)
      have NF := hU (show ¬ f = 2 → T2.length = 0 from fun e => by rw [HT2.out, if_neg e]; rfl)
      obtain ⟨x0, x1, x2, x3⟩ := BH.out _ _ bx
      by_cases hlt : k < T2.length
      case neg =>
       obtain rfl : k = T2.length := by omega
       rw [List.take_length] at ko
       have HQ := hU (show ¬ m < n2 ∨ ¬ f = 2 from by
        by_cases e : f = 2
        · exact .inl (by have h1 := NX.out e; omega)
        · exact .inr e)
       clear hm hlt hk
       go_upto_region 13 with fail
       go_cut [78] from 70 to 78 (fun vx wx => vx = .bool false ∧ wx = wr)
       case first =>
        by_cases hlt : m < n2
        · have ff : ((f : Int) == 2) = false := beq_false_of_ne (by have h1 := HQ.out; omega)
          go_wp2_with fail
          go_meet
          case rel => exact ⟨rfl, rfl⟩
        · go_wp2_with fail
          go_meet
          case rel => exact ⟨rfl, rfl⟩
       case rest =>
       obtain ⟨rfl, hwx⟩ := hcut
       subst hwx
       have HR := hU (slf_at (show wc.ownsRow (g + 1) 9 1 (.slice V (fileT b f).length cv) (fileT b f).length ((fileT b f).flatMap sone) by rw [HFT.out, List.length_append, List.length_append]; exact ko)).reads
       have ELN : T0.length + T1.length + T2.length = (fileT b f).length := by rw [HFT.out, List.length_append, List.length_append]
       have ELH := hU ELN
       rw [ELN]
       have HE := hU he
       clear ELN bx ko he x0 x1 x2 x3 HQ NX NF HM
       go_wp2_with fail
       refine (specFrames_any V cv (fileT b f) _ HR.out HN.out HS.out).mono ?_
       rintro e w9 ⟨rfl, h1⟩
       have he := HE.out.next h1
       clear h1
       go_wp2_with fail
       go_ret
       exact ⟨rfl, he⟩
      have ef : f = 2 := by
       by_cases e : f = 2
       · exact e
       · have h1 := NF.out e; omega
      have ff : ((f : Int) == 2) = true := beq_iff_eq.2 (by omega)
      have hm2 : m < n2 := by have h1 := NX.out ef; omega
      have TE := hU (show T2 = textsR b by rw [HT2.out, if_pos ef])
      clear ef
      obtain ⟨b_, off, rfl, hb_, hc⟩ := Reads.at_ (S0.out.ext he).r.reads (k := m) (by rw [← N2.out]; exact hm2)
      obtain ⟨d, hd⟩ : ∃ d, d = b.receipts[m]'(by rw [← N2.out]; exact hm2) := ⟨_, rfl⟩
      have hdl : b.receipts[m]? = some d := by rw [hd]; exact List.getElem?_eq_getElem _
      have HDO := hU (HK.out.r d (List.mem_of_getElem? hdl))
      have HX := hU (show T2[k]? = some (receiptText d) by rw [TE.out, textsR, List.getElem?_map, show k = m by omega, hdl]; rfl)
      obtain ⟨d0, d1, d2⟩ := rec_at hc hdl
      clear hc hd hdl hm
      go_wp2_with fail
      refine (specReceiptText_any d _ HDO.out).mono ?_
      rintro e w2 ⟨rfl, h2⟩
      replace bx := bx.ext h2; replace ko := ownsRow_ext ko h2; replace he := he.next h2
      clear h2 d0 d1 d2 x0 x1 x2 x3
      obtain ⟨x, hx⟩ : ∃ x, x = receiptText d := ⟨_, rfl⟩
      rw [← hx] at HX
      rw [← hx]
      clear hx
      have hw1 := bx.lt
      have BQ := hU bx; have KO := hU ko; have HEQ := hU he
      clear bx ko he
      go_wp2_with (at_builtin; refine wpList_append_moved _ rfl _ _ 29 rfl (g + 1) 9 i0 _ 1 16 Tryz.underlying29 hi hz0 hz1 hz2 rfl (by decide) _ _ _ rfl (KO.out.alloc _) ⟨w2.heap.size, 0, none⟩ 1 1 [.string x] rfl rfl ?x12 ?x22 ?x32 ?x42 ?x52 ?_)
      case x12 => exact (Blk.new w2 9 #[.string x]).adds
      case x22 => intro u hu; simp at hu; subst hu; rfl
      case x32 => unfold maxLen; omega
      case x42 => omega
      case x52 => simp; omega
      intro v' w3 hown' hfrm hmv
      have h2 := Ext.new (Below.refl w2.heap.size w2) (.cells #[.string x] 9)
      obtain ⟨V', cv', rfl, _⟩ := ownsRow_form hown'
      have L0 := hU KO.out.lt
      have bx2 := hU (hfrm.blk (BQ.out.ext h2) (fun e => by have := (L0.out _ e).1; omega))
      have he2 := hU (hfrm.toExt (HEQ.out.next h2) (fun y hy e => by have := (L0.out _ e).1; omega))
      obtain ⟨hkl, hkd⟩ := List.getElem?_eq_some_iff.1 HX.out
      have e2 : (T0 ++ T1 ++ T2.take k).flatMap sone ++ [.string x] = (T0 ++ T1 ++ T2.take (k + 1)).flatMap sone := by rw [List.take_succ_eq_append_getElem hkl, hkd]; simp [sone, List.flatMap_append]
      have O2 := hU (show w3.ownsRow (g + 1) 9 1 (.slice V' (T0.length + T1.length + k + 1) cv') (T0.length + T1.length + k + 1) ((T0 ++ T1 ++ T2.take (k + 1)).flatMap sone) by rw [← e2]; simpa [List.flatMap_append, List.append_assoc] using hown')
      clear hown' hfrm hmv hkd e2 KO BQ HEQ h2 L0
      go_wp2_with fail
      go_roundw
      case rel => exact ⟨k + 1, m + 1, V', cv', by omega, by have := HM.out; omega, by go_num, rfl, bx2.out, O2.out, he2.out⟩
      case measure => simp [intOf]; omega
    have ef : f = 1 := by
     by_cases e : f = 1
     · exact e
     · have h1 := NF.out e; omega
    have ff : ((f : Int) == 1) = true := beq_iff_eq.2 (by omega)
    have hm2 : m < n1 := by have h1 := NX.out ef; omega
    have TE := hU (show T1 = textsH b by rw [HT1.out, if_pos ef])
    clear ef
    obtain ⟨b_, off, rfl, hb_, hc⟩ := Reads.at_ (S0.out.ext he).h.reads (k := m) (by rw [← N1.out]; exact hm2)
    obtain ⟨d, hd⟩ : ∃ d, d = b.heads[m]'(by rw [← N1.out]; exact hm2) := ⟨_, rfl⟩
    have hdl : b.heads[m]? = some d := by rw [hd]; exact List.getElem?_eq_getElem _
    have HX := hU (show T1[k]? = some (headText b.width d) by rw [TE.out, textsH, List.getElem?_map, List.getElem?_drop, show 1 + k = m by omega, hdl]; rfl)
    obtain ⟨d0, d1, d2, d3, d4⟩ := hd_at hc hdl
    clear hc hd hdl hm
    go_upto_region 10 with fail
    refine wp_region_held_drew (S := fun w' => Ext wr w') (by kernel_rfl) (Below.refl _ _).drew (fun hH => ?_)
    have BQ := hU bx
    have DQ : Hid (∀ w', Ext wr w' → w'.cell? ⟨b_, off + m * 5, none⟩ = some (.int .i64 d.number) ∧ w'.cell? ⟨b_, off + m * 5 + 1, none⟩ = some (.int .i64 d.size) ∧ w'.cell? ⟨b_, off + m * 5 + 2, none⟩ = some (.string d.root) ∧ w'.cell? ⟨b_, off + m * 5 + 3, none⟩ = some (.int .i64 d.taken) ∧ w'.cell? ⟨b_, off + m * 5 + 4, none⟩ = some (.string d.takenRoot)) := hU (fun w' hw => ⟨(hw.cell (p := ⟨b_, off + m * 5, none⟩) hb_).trans d0, (hw.cell (p := ⟨b_, off + m * 5 + 1, none⟩) hb_).trans d1, (hw.cell (p := ⟨b_, off + m * 5 + 2, none⟩) hb_).trans d2, (hw.cell (p := ⟨b_, off + m * 5 + 3, none⟩) hb_).trans d3, (hw.cell (p := ⟨b_, off + m * 5 + 4, none⟩) hb_).trans d4⟩)
    clear d0 d1 d2 d3 d4 x0 x1 x2 x3 bx
    refine takeQ 0 (.pointer (some ⟨g, 0, none⟩)) (some 56) rfl rfl (by kernel_rfl) (Or.inl ⟨by rfl, ?yf1⟩) hH ?rf1
    case yf1 => intro w' hS'; go_simp; try with_reducible rfl
    try simp only [zA]
    refine takeQ 1 (.int .i64 b.width) (some 57) rfl rfl (by kernel_rfl) (Or.inl ⟨by rfl, ?yf2⟩) hH ?rf2
    case yf2 => intro w' hS'; obtain ⟨y0, y1, y2, y3⟩ := BH.out _ _ (BQ.out.ext hS'); obtain ⟨d0, d1, d2, d3, d4⟩ := DQ.out _ hS'; go_simp; try with_reducible rfl
    try simp only [zA]
    refine takeQ 2 (.pointer (some ⟨g, 3, none⟩)) (some 58) rfl rfl (by kernel_rfl) (Or.inl ⟨by rfl, ?yf3⟩) hH ?rf3
    case yf3 => intro w' hS'; go_simp; try with_reducible rfl
    try simp only [zA]
    refine takeQ 3 (.slice (some ⟨b_, off, none⟩) n1 a2) (some 59) rfl rfl (by kernel_rfl) (Or.inl ⟨by rfl, ?yf4⟩) hH ?rf4
    case yf4 => intro w' hS'; obtain ⟨y0, y1, y2, y3⟩ := BH.out _ _ (BQ.out.ext hS'); obtain ⟨d0, d1, d2, d3, d4⟩ := DQ.out _ hS'; go_simp; try with_reducible rfl
    try simp only [zA]
    refine takeQ 4 (.int .i64 (m : Int)) (some 60) rfl rfl (by kernel_rfl) (Or.inl ⟨by rfl, ?yf5⟩) hH ?rf5
    case yf5 => intro w' hS'; obtain ⟨y0, y1, y2, y3⟩ := BH.out _ _ (BQ.out.ext hS'); obtain ⟨d0, d1, d2, d3, d4⟩ := DQ.out _ hS'; go_simp; try with_reducible rfl
    try simp only [zA]
    refine takeQ 5 (.pointer (some ⟨b_, off + m * 5, none⟩)) (some 61) rfl rfl (by kernel_rfl) (Or.inl ⟨by rfl, ?yf6⟩) hH ?rf6
    case yf6 => intro w' hS'; go_simp; try with_reducible rfl
    try simp only [zA]
    refine takeQ 6 (.agg #[.int .i64 d.number, .int .i64 d.size, .string d.root, .int .i64 d.taken, .string d.takenRoot]) (some 62) rfl rfl (by kernel_rfl) (Or.inl ⟨by rfl, ?yf7⟩) hH ?rf7
    case yf7 => intro w' hS'; obtain ⟨y0, y1, y2, y3⟩ := BH.out _ _ (BQ.out.ext hS'); obtain ⟨d0, d1, d2, d3, d4⟩ := DQ.out _ hS'; go_simp; try with_reducible rfl
    try simp only [zA]
    refine oneH 7 (oi := _) (some 63) (by kernel_rfl) rfl rfl rfl (fun K' hK => ?_)
    refine ⟨?_⟩
    rw [if_pos (by rfl)]
    go_simp
    refine (specHeadText_any b.width d _).mono ?_
    rintro e w2 ⟨rfl, h1⟩
    refine hK.out _ _ ⟨_, rfl⟩ (hH.next h1) (fun hH2 => ?_)
    clear hK K' hH h1
    have hH := hH2
    clear hH2
    try simp only [zB]
    refine takeQ 8 (.tuple #[.string (headText b.width d), .bool (headOk b.width d)]) (some 55) rfl rfl (by kernel_rfl) (Or.inl ⟨by rfl, ?yf8⟩) hH ?rf8
    case yf8 => intro w' hS'; obtain ⟨y0, y1, y2, y3⟩ := BH.out _ _ (BQ.out.ext hS'); obtain ⟨d0, d1, d2, d3, d4⟩ := DQ.out _ hS'; go_simp; try with_reducible rfl
    try simp only [zA]
    refine takeQ 9 (.string (headText b.width d)) (some 64) rfl rfl (by kernel_rfl) (Or.inl ⟨by rfl, ?yf9⟩) hH ?rf9
    case yf9 => intro w' hS'; obtain ⟨y0, y1, y2, y3⟩ := BH.out _ _ (BQ.out.ext hS'); obtain ⟨d0, d1, d2, d3, d4⟩ := DQ.out _ hS'; go_simp; try with_reducible rfl
    try simp only [zA]
    refine takeQ 10 (.bool (headOk b.width d)) (some 65) rfl rfl (by kernel_rfl) (Or.inl ⟨by rfl, ?yf10⟩) hH ?rf10
    case yf10 => intro w' hS'; go_simp; try with_reducible rfl
    try simp only [zA]
    refine takeQ 11 (.string (headText b.width d)) (some 10) rfl rfl (by kernel_rfl) (Or.inl ⟨by rfl, ?yf11⟩) hH ?rf11
    case yf11 => intro w' hS'; obtain ⟨y0, y1, y2, y3⟩ := BH.out _ _ (BQ.out.ext hS'); obtain ⟨d0, d1, d2, d3, d4⟩ := DQ.out _ hS'; go_simp; try with_reducible rfl
    try simp only [zA]
    refine takeQ 12 (.bool (headOk b.width d)) (some 11) rfl rfl (by kernel_rfl) (Or.inl ⟨by rfl, ?yf12⟩) hH ?rf12
    case yf12 => intro w' hS'; go_simp; try with_reducible rfl
    try simp only [zA]
    have h2 := hH
    refine wpAnyH_done (by kernel_rfl) ?_ _
    clear hH
    have bx := BQ.out
    replace bx := bx.ext h2; replace ko := ownsRow_ext ko h2; replace he := he.next h2
    clear h2 BQ DQ
    obtain ⟨x, hx⟩ : ∃ x, x = headText b.width d := ⟨_, rfl⟩
    rw [← hx] at HX
    rw [← hx]
    clear hx
    have hw1 := bx.lt
    have BQ := hU bx; have KO := hU ko; have HEQ := hU he
    clear bx ko he
    go_wp2_with (at_builtin; refine wpList_append_moved _ rfl _ _ 29 rfl (g + 1) 9 i0 _ 1 16 Tryz.underlying29 hi hz0 hz1 hz2 rfl (by decide) _ _ _ rfl (KO.out.alloc _) ⟨w2.heap.size, 0, none⟩ 1 1 [.string x] rfl rfl ?x11 ?x21 ?x31 ?x41 ?x51 ?_)
    case x11 => exact (Blk.new w2 9 #[.string x]).adds
    case x21 => intro u hu; simp at hu; subst hu; rfl
    case x31 => unfold maxLen; omega
    case x41 => omega
    case x51 => simp; omega
    intro v' w3 hown' hfrm hmv
    have h2 := Ext.new (Below.refl w2.heap.size w2) (.cells #[.string x] 9)
    obtain ⟨V', cv', rfl, _⟩ := ownsRow_form hown'
    have L0 := hU KO.out.lt
    have bx2 := hU (hfrm.blk (BQ.out.ext h2) (fun e => by have := (L0.out _ e).1; omega))
    have he2 := hU (hfrm.toExt (HEQ.out.next h2) (fun y hy e => by have := (L0.out _ e).1; omega))
    obtain ⟨hkl, hkd⟩ := List.getElem?_eq_some_iff.1 HX.out
    have e2 : (T0 ++ T1.take k).flatMap sone ++ [.string x] = (T0 ++ T1.take (k + 1)).flatMap sone := by rw [List.take_succ_eq_append_getElem hkl, hkd]; simp [sone, List.flatMap_append]
    have O2 := hU (show w3.ownsRow (g + 1) 9 1 (.slice V' (T0.length + k + 1) cv') (T0.length + k + 1) ((T0 ++ T1.take (k + 1)).flatMap sone) by rw [← e2]; simpa [List.flatMap_append, List.append_assoc] using hown')
    clear hown' hfrm hmv hkd e2 KO BQ HEQ h2 L0
    go_wp2_with fail
    go_roundw
    case rel => exact ⟨k + 1, m + 1, V', cv', by omega, by have := HM.out; omega, by go_num, rfl, bx2.out, O2.out, he2.out⟩
    case measure => simp [intOf]; omega
  have ef : f = 0 := by
   by_cases e : f = 0
   · exact e
   · have h1 := NF.out e; omega
  have ff : ((f : Int) == 0) = true := beq_iff_eq.2 (by omega)
  have hm2 : m < n0 := by have h1 := NX.out ef; omega
  have TE := hU (show T0 = textsE b by rw [HT0.out, if_pos ef])
  clear ef
  obtain ⟨b_, off, rfl, hb_, hc⟩ := Reads.at_ (S0.out.ext he).e.reads (k := m) (by rw [← N0.out]; exact hm2)
  obtain ⟨d, hd⟩ : ∃ d, d = b.log.entries[m]'(by rw [← N0.out]; exact hm2) := ⟨_, rfl⟩
  have hdl : b.log.entries[m]? = some d := by rw [hd]; exact List.getElem?_eq_getElem _
  have HDO := hU (HK.out.e d (List.mem_of_getElem? hdl))
  have HX := hU (show T0[k]? = some (leafText d) by rw [TE.out, textsE, List.getElem?_map, show k = m by omega, hdl]; rfl)
  obtain ⟨d0, d1, d2, d3, d4⟩ := entry_at hc hdl
  clear hc hd hdl hm
  go_wp2_with fail
  refine (specLeafText_any d _ HDO.out).mono ?_
  rintro e w2 ⟨rfl, h2⟩
  replace bx := bx.ext h2; replace ko := ownsRow_ext ko h2; replace he := he.next h2
  clear h2 d0 d1 d2 d3 d4 x0 x1 x2 x3
  obtain ⟨x, hx⟩ : ∃ x, x = leafText d := ⟨_, rfl⟩
  rw [← hx] at HX
  rw [← hx]
  clear hx
  have hw1 := bx.lt
  have BQ := hU bx; have KO := hU ko; have HEQ := hU he
  clear bx ko he
  go_wp2_with (at_builtin; refine wpList_append_moved _ rfl _ _ 29 rfl (g + 1) 9 i0 _ 1 16 Tryz.underlying29 hi hz0 hz1 hz2 rfl (by decide) _ _ _ rfl (KO.out.alloc _) ⟨w2.heap.size, 0, none⟩ 1 1 [.string x] rfl rfl ?x10 ?x20 ?x30 ?x40 ?x50 ?_)
  case x10 => exact (Blk.new w2 9 #[.string x]).adds
  case x20 => intro u hu; simp at hu; subst hu; rfl
  case x30 => unfold maxLen; omega
  case x40 => omega
  case x50 => simp; omega
  intro v' w3 hown' hfrm hmv
  have h2 := Ext.new (Below.refl w2.heap.size w2) (.cells #[.string x] 9)
  obtain ⟨V', cv', rfl, _⟩ := ownsRow_form hown'
  have L0 := hU KO.out.lt
  have bx2 := hU (hfrm.blk (BQ.out.ext h2) (fun e => by have := (L0.out _ e).1; omega))
  have he2 := hU (hfrm.toExt (HEQ.out.next h2) (fun y hy e => by have := (L0.out _ e).1; omega))
  obtain ⟨hkl, hkd⟩ := List.getElem?_eq_some_iff.1 HX.out
  have e2 : (T0.take k).flatMap sone ++ [.string x] = (T0.take (k + 1)).flatMap sone := by rw [List.take_succ_eq_append_getElem hkl, hkd]; simp [sone, List.flatMap_append]
  have O2 := hU (show w3.ownsRow (g + 1) 9 1 (.slice V' (k + 1) cv') (k + 1) ((T0.take (k + 1)).flatMap sone) by rw [← e2]; simpa [List.flatMap_append, List.append_assoc] using hown')
  clear hown' hfrm hmv hkd e2 KO BQ HEQ h2 L0
  go_wp2_with fail
  go_roundw
  case rel => exact ⟨k + 1, m + 1, V', cv', by omega, by have := HM.out; omega, by go_num, rfl, bx2.out, O2.out, he2.out⟩
  case measure => simp [intOf]; omega
end Go.Proofs.YthnpdoadmglipaaGreat
