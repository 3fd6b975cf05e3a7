/-
  Twin: No condition.
-/
import Derived.Test.YtgeengkdgdjcjaaGreatLogs2
import Derived.Test.YtgeengkdgdjcjaaGreatNItem
import Derived.Test.YtgeengkdgdjcjaaGreatEqs
namespace Go.Proofs.YtgeengkdgdjcjaaGreat
set_option maxHeartbeats 4000000
set_option maxRecDepth 100000
set_option linter.unusedSimpArgs false
open Go.RowKit
set_option linter.unusedVariables false
theorem body_ok {d : EntryD} (h : entryOk d = true) (hd : d.Ok) {b : ByteArray} (hb : b.size ≤ 400) : entryOk { d with body := b } = true ∧ ({ d with body := b } : EntryD).Ok := by
 obtain ⟨k1, k2, k3, k4, k5⟩ := hd
 refine ⟨?_, k1, k2, k3, k4, ?_⟩
 · simp only [entryOk, partsB, Bool.and_eq_true, decide_eq_true_eq] at h ⊢
   obtain ⟨⟨h1, h2⟩, ⟨h3, h4⟩, h5⟩ := h
   exact ⟨⟨h1, h2⟩, ⟨h3, h4⟩, by omega⟩
 · unfold maxLen; show b.size ≤ _; omega
theorem entryOk_body {d : EntryD} (h : entryOk d = true) : d.body.size ≤ 400 := by
 simp only [entryOk, partsB, Bool.and_eq_true, decide_eq_true_eq] at h
 omega
theorem l22Twin_any (n : Int) (d : EntryD) (w : World) (hd : d.Ok) (ho : entryOk d = true) :
 Calls Tryz.prog 75 #[.int .i64 n, .agg #[.string d.topic, .int .i64 d.index, .int .i64 d.time, .string d.key, .string d.body]] w fun e w' => ∃ b : ByteArray, e = .returned (.agg #[.string ({ d with body := b } : EntryD).topic, .int .i64 ({ d with body := b } : EntryD).index, .int .i64 ({ d with body := b } : EntryD).time, .string ({ d with body := b } : EntryD).key, .string ({ d with body := b } : EntryD).body]) ∧ b.size ≤ 400 ∧ Ext w w' := by
 have HD := hU hd; clear hd
 have HO := hU ho; clear ho
 have K3 := hU ((Blk.new w 56 #[.string d.topic, .int .i64 d.index, .int .i64 d.time, .string d.key, .string d.body]).alloc (.cells #[.string ⟨#[]⟩, .int .i64 0, .int .i64 0, .string ⟨#[]⟩, .string ⟨#[]⟩] 56))
 have k4 := Blk.new (w.alloc (.cells #[.string d.topic, .int .i64 d.index, .int .i64 d.time, .string d.key, .string d.body] 56)) 56 #[.string ⟨#[]⟩, .int .i64 0, .int .i64 0, .string ⟨#[]⟩, .string ⟨#[]⟩]
 rw [World.size_alloc] at k4
 have K4 := hU k4; clear k4
 have HE := hU (Ext.new (Ext.new (Below.refl w.heap.size w) (.cells #[.string d.topic, .int .i64 d.index, .int .i64 d.time, .string d.key, .string d.body] 56)) (.cells #[.string ⟨#[]⟩, .int .i64 0, .int .i64 0, .string ⟨#[]⟩, .string ⟨#[]⟩] 56))
 obtain ⟨c3, f3⟩ := K3.out.rules
 go_enter Tryz.func75, Tryz.ntmps75
 go_wp2_with fail
 clear c3 f3
 obtain ⟨q, hq⟩ : ∃ q, q = w.heap.size := ⟨_, rfl⟩
 rw [← hq] at K3 K4
 rw [← hq]
 have hq0 : w.heap.size ≤ q := by omega
 clear hq
 generalize (w.alloc (.cells #[.string d.topic, .int .i64 d.index, .int .i64 d.time, .string d.key, .string d.body] 56)).alloc (.cells #[.string ⟨#[]⟩, .int .i64 0, .int .i64 0, .string ⟨#[]⟩, .string ⟨#[]⟩] 56) = w0 at *
 refine (specLeafHash_any n d _ HD.out).mono ?_
 rintro e w1 ⟨rfl, h1⟩
 generalize leafH n d = hw at *
 generalize leafHOk n d = hk1 at *
 replace K3 := hU (K3.out.ext h1); replace K4 := hU (K4.out.ext h1); replace HE := hU (HE.out.next h1); clear h1
 obtain ⟨c3, f3⟩ := K3.out.rules
 have k4lt := K4.out.lt
 go_wp2_with fail
 clear c3 f3
 have K7 := hU (Blk.new w1 56 #[.string d.topic, .int .i64 d.index, .int .i64 d.time, .string d.key, .string d.body])
 replace K3 := hU (K3.out.alloc (.cells #[.string d.topic, .int .i64 d.index, .int .i64 d.time, .string d.key, .string d.body] 56)); replace K4 := hU (K4.out.alloc (.cells #[.string d.topic, .int .i64 d.index, .int .i64 d.time, .string d.key, .string d.body] 56)); replace HE := hU (HE.out.new (.cells #[.string d.topic, .int .i64 d.index, .int .i64 d.time, .string d.key, .string d.body] 56))
 obtain ⟨p, hp⟩ : ∃ p, p = w1.heap.size := ⟨_, rfl⟩
 rw [← hp] at K7 k4lt
 rw [← hp]
 clear hp
 generalize w1.alloc (.cells #[.string d.topic, .int .i64 d.index, .int .i64 d.time, .string d.key, .string d.body] 56) = w2 at *
 go_loopw [8] (fun i wr => ∃ (k : Nat) (b : ByteArray), k ≤ 600 ∧ b.size ≤ 400 ∧ i = .int .i64 (k : Int) ∧ Blk wr q 56 #[.string d.topic, .int .i64 d.index, .int .i64 d.time, .string d.key, .string d.body] ∧ Blk wr (q + 1) 56 #[.string ⟨#[]⟩, .int .i64 0, .int .i64 0, .string ⟨#[]⟩, .string ⟨#[]⟩] ∧ Blk wr p 56 #[.string d.topic, .int .i64 d.index, .int .i64 d.time, .string d.key, .string b] ∧ Ext w wr) (fun i _ => 600 - (intOf i).toNat)
 case atStart => exact ⟨0, d.body, by omega, entryOk_body HO.out, rfl, K3.out, K4.out, K7.out, HE.out⟩
 case round =>
  clear K3 K4 K7 HE
  obtain ⟨k, b, hk, hb, rfl, k3, k4, k7, he⟩ := hrel
  by_cases hlt : k < 600
  case neg =>
   have d1 : decide ((k : Int) < 600) = false := by rw [decide_eq_false_iff_not]; omega
   obtain ⟨c3, f3⟩ := k3.rules
   obtain ⟨c4, f4⟩ := k4.rules
   have b4 := k4.set_ 0 (.string d.topic)
   replace b4 := (((b4.set_ 1 (.int .i64 d.index)).set_ 2 (.int .i64 d.time)).set_ 3 (.string d.key)).set_ 4 (.string d.body)
   have B4 := hU b4; clear b4
   have HE := hU (ext_setCells (show w.heap.size ≤ q + 1 by omega) [.string d.topic, .int .i64 d.index, .int .i64 d.time, .string d.key, .string d.body] 0 wr he)
   go_wp2_with fail
   exact ret_row rfl rfl B4.out Tryz.underlying56 rfl (by kernel_rfl) rfl ⟨d.body, rfl, entryOk_body HO.out, HE.out⟩
  have d1 : decide ((k : Int) < 600) = true := by rw [decide_eq_true_eq]; omega
  have hcv : (convert 22 9 (.slice (some ⟨wr.heap.size, 0, none⟩) 3 3)).run Tryz.prog (wr.alloc (.cells #[.int .u8 ((k : Int) / 256), .int .u8 ((k : Int) % 256), .int .u8 1] 5)) =
   .ok (.string (ofInts [(k : Int) / 256, (k : Int) % 256, 1])) (wr.alloc (.cells #[.int .u8 ((k : Int) / 256), .int .u8 ((k : Int) % 256), .int .u8 1] 5)) := conv_bytes [(k : Int) / 256, (k : Int) % 256, 1] (by intro x hx; simp at hx; rcases hx with rfl | rfl | rfl <;> omega) wr
  obtain ⟨y, hy⟩ : ∃ y, y = ofInts [(k : Int) / 256, (k : Int) % 256, 1] := ⟨_, rfl⟩
  have hys : y.size = 3 := by rw [hy]; rfl
  rw [← hy] at hcv
  have Hys := hU hys
  clear hy hys
  have N3 := hU ((k3.alloc (.cells #[.int .u8 ((k : Int) / 256), .int .u8 ((k : Int) % 256), .int .u8 1] 5)).far (p := ⟨p, 4, none⟩) (by show q ≠ p; omega) (.string y))
  have N4 := hU ((k4.alloc (.cells #[.int .u8 ((k : Int) / 256), .int .u8 ((k : Int) % 256), .int .u8 1] 5)).far (p := ⟨p, 4, none⟩) (by show q + 1 ≠ p; omega) (.string y))
  have N7 := hU ((k7.alloc (.cells #[.int .u8 ((k : Int) / 256), .int .u8 ((k : Int) % 256), .int .u8 1] 5)).set_ 4 (.string y))
  have NE := hU (Below.setCell (he.new (.cells #[.int .u8 ((k : Int) / 256), .int .u8 ((k : Int) % 256), .int .u8 1] 5)) (p := ⟨p, 4, none⟩) (show w.heap.size ≤ p by omega) (.string y))
  have h74 := (k7.alloc (.cells #[.int .u8 ((k : Int) / 256), .int .u8 ((k : Int) % 256), .int .u8 1] 5)).rules
  obtain ⟨c7, f7⟩ := h74
  go_upto_region 7 with fail
  clear c7 f7 hcv k3 k4 k7 he
  generalize (wr.alloc (.cells #[.int .u8 ((k : Int) / 256), .int .u8 ((k : Int) % 256), .int .u8 1] 5)).setCell ⟨p, 4, none⟩ (.string y) = w3 at *
  obtain ⟨c7, f7⟩ := N7.out.rules
  go_wp2_with fail
  refine (specLeafHash_any n ({ d with body := y } : EntryD) _ (body_ok HO.out HD.out (by rw [Hys.out]; decide)).2).mono ?_
  rintro e w4 ⟨rfl, h1⟩
  replace N3 := hU (N3.out.ext h1); replace N4 := hU (N4.out.ext h1); replace NE := hU (Ext.next NE.out h1)
  have N7' := N7.out.ext h1
  replace N7 := hU N7'
  clear h1 c7 f7
  generalize leafH n ({ d with body := y } : EntryD) = hh at *
  generalize leafHOk n ({ d with body := y } : EntryD) = hk2 at *
  have hr : ∀ w', Blk w' q 56 #[.string d.topic, .int .i64 d.index, .int .i64 d.time, .string d.key, .string d.body] ∧ Blk w' (q + 1) 56 #[.string ⟨#[]⟩, .int .i64 0, .int .i64 0, .string ⟨#[]⟩, .string ⟨#[]⟩] ∧ Blk w' p 56 #[.string ({ d with body := y } : EntryD).topic, .int .i64 ({ d with body := y } : EntryD).index, .int .i64 ({ d with body := y } : EntryD).time, .string ({ d with body := y } : EntryD).key, .string ({ d with body := y } : EntryD).body] ∧ Ext w w' → True := fun _ _ => trivial
  clear hr
  have hne := EntryD.run_neq ({ d with body := y } : EntryD) d
  simp only at hne
  obtain ⟨c7, f7⟩ := N7'.rules
  obtain ⟨c3, f3⟩ := N3.out.rules
  obtain ⟨c4, f4⟩ := N4.out.rules
  clear N7'
  cases b1 : (hh.toList == hw.toList)
  · go_wp2_with fail
    go_roundw
    case rel => exact ⟨k + 1, y, by omega, by rw [Hys.out]; decide, by go_num, N3.out, N4.out, N7.out, NE.out⟩
    case measure => simp [intOf]; omega
  cases hq : ({ d with body := y } : EntryD).eqb d
  · rw [hq] at hne
    have b4 := N4.out.set_ 0 (.string d.topic)
    replace b4 := (((b4.set_ 1 (.int .i64 d.index)).set_ 2 (.int .i64 d.time)).set_ 3 (.string d.key)).set_ 4 (.string y)
    have B4 := hU b4; clear b4
    have HE := hU (ext_setCells (show w.heap.size ≤ q + 1 by omega) [.string ({ d with body := y } : EntryD).topic, .int .i64 ({ d with body := y } : EntryD).index, .int .i64 ({ d with body := y } : EntryD).time, .string ({ d with body := y } : EntryD).key, .string ({ d with body := y } : EntryD).body] 0 w4 NE.out)
    go_wp2_with fail
    exact ret_row rfl rfl B4.out Tryz.underlying56 rfl (by kernel_rfl) rfl ⟨y, rfl, by rw [Hys.out]; decide, HE.out⟩
  · rw [hq] at hne
    go_wp2_with fail
    go_roundw
    case rel => exact ⟨k + 1, y, by omega, by rw [Hys.out]; decide, by go_num, N3.out, N4.out, N7.out, NE.out⟩
    case measure => simp [intOf]; omega
theorem DrawTwin_any (A : Option Addr) (c : Nat) (l : List Int) (w : World) (hlen : l.length ≤ maxLen) (hin : ∀ x ∈ l, ByteIn x) (hr : ReadsL w w.heap.size byteC 1 A l) :
 Calls Tryz.prog 22 #[.slice A l.length c] w fun e w' => Ext w w' ∧ ∃ (n : Nat) (V : Option Addr) (cv : Nat) (L : List EntryD) (k : Nat) (hk : k < L.length) (b : ByteArray), 1 ≤ n ∧ n ≤ 4 ∧ L.length ≤ 12 ∧ LogRight L ∧ (∀ d ∈ L, drawnE d) ∧ b.size ≤ 400 ∧ SlF (FromB w.heap.size) EntryD.cells 5 w' V L cv ∧
  e = .returned (.tuple #[.int .i64 (n : Int), .slice V L.length cv, .int .i64 (k : Int), .agg #[.string ({ L[k] with body := b } : EntryD).topic, .int .i64 ({ L[k] with body := b } : EntryD).index, .int .i64 ({ L[k] with body := b } : EntryD).time, .string ({ L[k] with body := b } : EntryD).key, .string ({ L[k] with body := b } : EntryD).body]]) := by
 have K5 := hU (Blk.new w 56 #[.string ⟨#[]⟩, .int .i64 0, .int .i64 0, .string ⟨#[]⟩, .string ⟨#[]⟩])
 have HE := hU (Ext.new (Below.refl w.heap.size w) (.cells #[.string ⟨#[]⟩, .int .i64 0, .int .i64 0, .string ⟨#[]⟩, .string ⟨#[]⟩] 56))
 have hr0 := hU (hr.below HE.out)
 have HI := hU hin
 clear hr hin
 go_enter Tryz.func22, Tryz.ntmps22
 go_wp2_with fail
 obtain ⟨q, hq⟩ : ∃ q, q = w.heap.size := ⟨_, rfl⟩
 rw [← hq] at K5 hr0
 rw [← hq]
 have hq0 : w.heap.size ≤ q := by omega
 have hq1 : q ≤ w.heap.size := by omega
 clear hq
 generalize w.alloc (.cells #[.string ⟨#[]⟩, .int .i64 0, .int .i64 0, .string ⟨#[]⟩, .string ⟨#[]⟩] 56) = w0 at *
 refine (l01New_any q A c l w0 (Nat.le_of_lt K5.out.lt) hlen HI.out hr0.out).mono ?_
 rintro e w1 ⟨g, hg, rfl, C1, E1⟩
 have hqg : q < g := Nat.lt_of_lt_of_le K5.out.lt hg
 replace HE := hU (HE.out.next E1); replace K5 := hU (K5.out.ext E1)
 clear E1 hr0
 go_wp2_with fail
 refine ((l01Once_any _ g A c l 4 _ (by decide) (by decide) C1)).mono ?_
 rintro e w2 ⟨x, rfl, C2, k1⟩
 replace HE := hU (HE.out.nextBut (by omega) k1); replace K5 := hU (K5.out.extBut k1 (by omega))
 clear C1 k1
 go_upto_if 14 with fail
 go_cut [7] (fun y wx => ∃ n : Nat, 1 ≤ n ∧ n ≤ 4 ∧ y = .int .i64 (n : Int) ∧ CurAt wx q g A c l ∧ Blk wx q 56 #[.string ⟨#[]⟩, .int .i64 0, .int .i64 0, .string ⟨#[]⟩, .string ⟨#[]⟩] ∧ Ext w wx)
 case first =>
  cases x
  case false =>
   go_wp2_with fail
   go_meet
   case rel => exact ⟨1, by omega, by omega, rfl, C2, K5.out, HE.out⟩
  go_wp2_with fail
  refine (l01Below_any _ g A c l 4 _ (by decide) (by decide) C2).mono ?_
  rintro e wb ⟨x, ⟨hx0, hx1⟩, rfl, C3, k1⟩
  go_wp2_with fail
  go_meet
  case rel => exact ⟨1 + x.toNat, by omega, by omega, congrArg (Value.int .i64) (by omega), C3, K5.out.extBut k1 (by omega), HE.out.nextBut (by omega) k1⟩
 case rest =>
 clear C2 K5 HE
 obtain ⟨n, hn1, hn4, rfl, C2, k5, he⟩ := hcut
 have K5 := hU k5; have HE := hU he; clear k5 he
 go_wp2_with fail
 refine (l01Below_any _ g A c l 12 _ (by decide) (by decide) C2).mono ?_
 rintro e w3 ⟨x, ⟨hx0, hx1⟩, rfl, C3, k1⟩
 replace HE := hU (HE.out.nextBut (by omega) k1); replace K5 := hU (K5.out.extBut k1 (by omega))
 clear C2 k1
 obtain ⟨M, hM⟩ : ∃ M : Nat, 1 + x = (M : Int) := ⟨(1 + x).toNat, by omega⟩
 have hM1 : 1 ≤ M ∧ M ≤ 12 := by omega
 go_wp2_with fail
 clear hM hx0 hx1
 refine (l09Log_any _ g A c l M _ (by omega) C3).mono ?_
 rintro e w4 ⟨v, L, rfl, hL, hR, hDr, hO, C4, k1⟩
 subst hL
 have g3 := C3.lt
 replace HE := hU (HE.out.nextBut (by omega) k1); replace K5 := hU (K5.out.extBut k1 (by omega))
 have HR := hU hR; have HDr := hU hDr
 obtain ⟨V, cv, rfl, _⟩ := slf_own hO
 have KO := hU hO
 have h34 := k1.size
 clear C3 k1 hR hDr hO
 go_wp2_with fail
 have K8 := hU (Blk.new w4 26 #[.slice V L.length cv])
 replace HE := hU (HE.out.new (.cells #[.slice V L.length cv] 26)); replace K5 := hU (K5.out.alloc (.cells #[.slice V L.length cv] 26))
 have C5 := C4.alloc (.cells #[.slice V L.length cv] 26)
 replace KO := hU (KO.out.alloc (.cells #[.slice V L.length cv] 26))
 have g4 := C4.lt
 obtain ⟨p, hp⟩ : ∃ p, p = w4.heap.size := ⟨_, rfl⟩
 rw [← hp] at K8 g4 h34
 rw [← hp]
 clear hp C4
 generalize w4.alloc (.cells #[.slice V L.length cv] 26) = w5 at *
 refine (l01Below_any _ g A c l (L.length : Int) _ (by omega) (by omega) C5).mono ?_
 rintro e w6 ⟨x, ⟨hx0, hx1⟩, rfl, C6, k1⟩
 obtain ⟨k, rfl⟩ : ∃ k : Nat, x = (k : Int) := ⟨x.toNat, by omega⟩
 have hk : k < L.length := by omega
 clear hx0 hx1
 replace HE := hU (HE.out.nextBut (by omega) k1); replace K5 := hU (K5.out.extBut k1 (by omega)); replace K8 := hU (K8.out.extBut k1 (by omega))
 replace KO := hU (ownsRow_but KO.out k1 g3)
 clear C5 k1
 obtain ⟨d, hd⟩ : ∃ d, d = L[k] := ⟨_, rfl⟩
 have hdl : L[k]? = some d := by rw [hd]; exact List.getElem?_eq_getElem hk
 obtain ⟨V', cv', hV, sf⟩ := slf_own KO.out
 obtain ⟨rfl, rfl⟩ : V = V' ∧ cv = cv' := by simpa using hV
 obtain ⟨b, off, rfl, hb, hc⟩ := Reads.at_ sf.reads (k := k) hk
 obtain ⟨e0, e1, e2, e3, e4⟩ := entry_at hc hdl
 have hw : IntKind.i64.wrap (k : Int) = (k : Int) := IntWalk.i64_in _ (by omega)
 obtain ⟨c8, f8⟩ := K8.out.rules
 obtain ⟨hdo, hdk, hdi⟩ := HR.out k d hdl
 have HDO := hU hdo; have HDK := hU hdk; have HDL := hU hd
 clear hc hdl hV sf hdo hdk hd hdi hb
 go_wp2_with fail
 clear c8 f8 e0 e1 e2 e3 e4 hw
 refine (l22Twin_any (n : Int) d _ HDK.out HDO.out).mono ?_
 rintro e w7 ⟨bd, rfl, hbd, h1⟩
 replace HE := hU (Ext.next HE.out h1); replace K5 := hU (K5.out.ext h1); replace K8 := hU (K8.out.ext h1); replace KO := hU (ownsRow_ext KO.out h1)
 have C7 := C6.ext h1
 clear h1 C6
 go_wp2_with fail
 have g7 := C7.lt
 have p7 := K8.out.lt
 have hne : (Value.slice (some ⟨b, off, none⟩) L.length cv).ownBlock ≠ some w7.heap.size := fun e => Nat.lt_irrefl _ (KO.out.lt _ e).2
 have K10 := hU (Blk.new w7 56 #[.string d.topic, .int .i64 d.index, .int .i64 d.time, .string d.key, .string bd])
 replace HE := hU (HE.out.new (.cells #[.string d.topic, .int .i64 d.index, .int .i64 d.time, .string d.key, .string bd] 56)); replace K5 := hU (K5.out.alloc (.cells #[.string d.topic, .int .i64 d.index, .int .i64 d.time, .string d.key, .string bd] 56)); replace K8 := hU (K8.out.alloc (.cells #[.string d.topic, .int .i64 d.index, .int .i64 d.time, .string d.key, .string bd] 56))
 have C8 := C7.alloc (.cells #[.string d.topic, .int .i64 d.index, .int .i64 d.time, .string d.key, .string bd] 56)
 replace KO := hU (KO.out.alloc (.cells #[.string d.topic, .int .i64 d.index, .int .i64 d.time, .string d.key, .string bd] 56))
 obtain ⟨r, hr⟩ : ∃ r, r = w7.heap.size := ⟨_, rfl⟩
 rw [← hr] at K10 g7 p7 hne
 rw [← hr]
 clear hr C7
 generalize w7.alloc (.cells #[.string d.topic, .int .i64 d.index, .int .i64 d.time, .string d.key, .string bd] 56) = w8 at *
 refine (l01Once_any _ g A c l 6 _ (by decide) (by decide) C8).mono ?_
 rintro e w9 ⟨x9, rfl, C9, k1⟩
 replace HE := hU (HE.out.nextBut (by omega) k1); replace K5 := hU (K5.out.extBut k1 (by omega)); replace K8 := hU (K8.out.extBut k1 (by omega)); replace K10 := hU (K10.out.extBut k1 (by omega))
 replace KO := hU (ownsRow_but KO.out k1 g3)
 clear C8 k1
 go_upto_if 36 with fail
 go_cut [7] (fun y wx => y = .int .i64 (n : Int) ∧ ∃ b' : ByteArray, b'.size ≤ 400 ∧ CurAt wx q g A c l ∧ Blk wx q 56 #[.string ⟨#[]⟩, .int .i64 0, .int .i64 0, .string ⟨#[]⟩, .string ⟨#[]⟩] ∧ Blk wx p 26 #[.slice (some ⟨b, off, none⟩) L.length cv] ∧ Blk wx r 56 #[.string d.topic, .int .i64 d.index, .int .i64 d.time, .string d.key, .string b'] ∧ wx.ownsRow w3.heap.size 56 5 (.slice (some ⟨b, off, none⟩) L.length cv) L.length (L.flatMap EntryD.cells) ∧ Ext w wx)
 case first =>
  cases x9
  case false =>
   go_wp2_with fail
   go_meet
   case rel => exact ⟨rfl, bd, hbd, C9, K5.out, K8.out, K10.out, KO.out, HE.out⟩
  go_wp2_with fail
  refine (l01Text_any _ g A c l 2 _ (by omega) C9).mono ?_
  rintro e wb ⟨y, hy, rfl, C10, k1⟩
  replace HE := hU (HE.out.nextBut (by omega) k1); replace K5 := hU (K5.out.extBut k1 (by omega)); replace K8 := hU (K8.out.extBut k1 (by omega)); replace K10 := hU (K10.out.extBut k1 (by omega))
  replace KO := hU (ownsRow_but KO.out k1 g3)
  clear C9 k1
  obtain ⟨c10, f10⟩ := K10.out.rules
  go_wp2_with fail
  clear c10 f10
  go_meet
  case rel => exact ⟨rfl, y, by omega, C10.far (p := r) (Nat.le_trans C10.1 (by omega)) (by omega) [.string y] 4, K5.out.far (p := ⟨r, 4, none⟩) (by show q ≠ r; omega) _, K8.out.far (p := ⟨r, 4, none⟩) (by show p ≠ r; omega) _, K10.out.set_ 4 (.string y), KO.out.kept (grow_setCells r [.string y] 4 wb wb (World.grownBy.refl _ _)) (.inr hne), Below.setCell HE.out (p := ⟨r, 4, none⟩) (show w.heap.size ≤ r by omega) _⟩
 case rest =>
 clear C9 K5 K8 K10 KO HE hbd
 obtain ⟨rfl, bd, hbd, C9, k5, k8, k10, ko, he⟩ := hcut
 have K5 := hU k5; have K8 := hU k8; have K10 := hU k10; have KO := hU ko; have HE := hU he
 clear k5 k8 k10 ko he C9
 have hqp : p ≠ q := by omega
 have hqr : r ≠ q := by omega
 have F := hU (show ∀ w', StoreS 56 5 q wc w' → w'.cell? ⟨p, 0, none⟩ = some (.slice (some ⟨b, off, none⟩) L.length cv) ∧ (w'.cell? ⟨r, 0, none⟩ = some (.string d.topic) ∧ w'.cell? ⟨r, 1, none⟩ = some (.int .i64 d.index) ∧ w'.cell? ⟨r, 2, none⟩ = some (.int .i64 d.time) ∧ w'.cell? ⟨r, 3, none⟩ = some (.string d.key) ∧ w'.cell? ⟨r, 4, none⟩ = some (.string bd)) from fun w' h' =>
  have h := h'.1
  ⟨(K8.out.extBut h hqp).cell 0, (K10.out.extBut h hqr).cell 0, (K10.out.extBut h hqr).cell 1, (K10.out.extBut h hqr).cell 2, (K10.out.extBut h hqr).cell 3, (K10.out.extBut h hqr).cell 4⟩)
 go_upto_region 10 with fail
 refine wp_region_held_drew (S := fun w' => StoreS 56 5 q wc w') (by kernel_rfl) (StoreS.start K5.out rfl) (fun hHeld => ?_)
 refine takeH (i := 0) (oi := _) (v := .int .i64 (n : Int)) (some 40) rfl rfl (by kernel_rfl) (by kernel_rfl) (by kernel_rfl) (fun _ a b _ e h => by cases a; cases b; cases e; exact h) (Or.inl ⟨by rfl, ?y0⟩) hHeld ?r0
 case y0 => intro w' hS'; go_simp; try with_reducible rfl
 (try simp only [fillA, Act.put, List.setIfInBounds_toArray, List.set_cons_zero, List.set_cons_succ])
 refine takeH (i := 1) (oi := _) (v := .pointer (some ⟨p, 0, none⟩)) (some 41) rfl rfl (by kernel_rfl) (by kernel_rfl) (by kernel_rfl) (fun _ a b _ e h => by cases a; cases b; cases e; exact h) (Or.inl ⟨by rfl, ?y1⟩) hHeld ?r1
 case y1 => intro w' hS'; go_simp; try with_reducible rfl
 (try simp only [fillA, Act.put, List.setIfInBounds_toArray, List.set_cons_zero, List.set_cons_succ])
 refine takeH (i := 2) (oi := _) (v := .slice (some ⟨b, off, none⟩) L.length cv) (some 42) rfl rfl (by kernel_rfl) (by kernel_rfl) (by kernel_rfl) (fun _ a b _ e h => by cases a; cases b; cases e; exact h) (Or.inl ⟨by rfl, ?y2⟩) hHeld ?r2
 case y2 => intro w' hS'; obtain ⟨f0, f1⟩ := F.out w' hS'; go_simp; try with_reducible rfl
 (try simp only [fillA, Act.put, List.setIfInBounds_toArray, List.set_cons_zero, List.set_cons_succ])
 refine takeH (i := 3) (oi := _) (v := .int .i64 (k : Int)) (some 43) rfl rfl (by kernel_rfl) (by kernel_rfl) (by kernel_rfl) (fun _ a b _ e h => by cases a; cases b; cases e; exact h) (Or.inl ⟨by rfl, ?y3⟩) hHeld ?r3
 case y3 => intro w' hS'; go_simp; try with_reducible rfl
 (try simp only [fillA, Act.put, List.setIfInBounds_toArray, List.set_cons_zero, List.set_cons_succ])
 refine takeH (i := 4) (oi := _) (v := .agg #[.string d.topic, .int .i64 d.index, .int .i64 d.time, .string d.key, .string bd]) (some 44) rfl rfl (by kernel_rfl) (by kernel_rfl) (by kernel_rfl) (fun _ a b _ e h => by cases a; cases b; cases e; exact h) (Or.inl ⟨by rfl, ?y4⟩) hHeld ?r4
 case y4 => intro w' hS'; obtain ⟨f0, f1⟩ := F.out w' hS'; go_simp; try with_reducible rfl
 (try simp only [fillA, Act.put, List.setIfInBounds_toArray, List.set_cons_zero, List.set_cons_succ])
 refine takeH (i := 5) (oi := _) (v := .int .i64 (n : Int)) (some 2) rfl rfl (by kernel_rfl) (by kernel_rfl) (by kernel_rfl) (fun _ a b _ e h => by cases a; cases b; cases e; exact h) (Or.inl ⟨by rfl, ?y5⟩) hHeld ?r5
 case y5 => intro w' hS'; go_simp; try with_reducible rfl
 (try simp only [fillA, Act.put, List.setIfInBounds_toArray, List.set_cons_zero, List.set_cons_succ])
 refine takeH (i := 6) (oi := _) (v := .slice (some ⟨b, off, none⟩) L.length cv) (some 3) rfl rfl (by kernel_rfl) (by kernel_rfl) (by kernel_rfl) (fun _ a b _ e h => by cases a; cases b; cases e; exact h) (Or.inl ⟨by rfl, ?y6⟩) hHeld ?r6
 case y6 => intro w' hS'; go_simp; try with_reducible rfl
 (try simp only [fillA, Act.put, List.setIfInBounds_toArray, List.set_cons_zero, List.set_cons_succ])
 refine takeH (i := 7) (oi := _) (v := .int .i64 (k : Int)) (some 4) rfl rfl (by kernel_rfl) (by kernel_rfl) (by kernel_rfl) (fun _ a b _ e h => by cases a; cases b; cases e; exact h) (Or.inl ⟨by rfl, ?y7⟩) hHeld ?r7
 case y7 => intro w' hS'; go_simp; try with_reducible rfl
 (try simp only [fillA, Act.put, List.setIfInBounds_toArray, List.set_cons_zero, List.set_cons_succ])
 refine oneH 8 (oi := _) none (by kernel_rfl) rfl rfl rfl (fun K' hK => ?_)
 refine ⟨?_⟩
 rw [if_pos (by rfl)]
 refine wp_store_here 56 _ _ (by rfl) (by rfl) q 0 [.string d.topic, .int .i64 d.index, .int .i64 d.time, .string d.key, .string bd] (by rfl) (by rfl) hHeld.there (by kernel_rfl) (by simp; exact ⟨rfl, rfl, rfl, rfl, rfl⟩) ?_
 obtain ⟨hx3, b3⟩ := hHeld.put [.string d.topic, .int .i64 d.index, .int .i64 d.time, .string d.key, .string bd] rfl
 have B3 := hU b3; clear b3
 refine hK.out _ _ ⟨undef, rfl⟩ hx3 (fun hx4 => ?_)
 clear hK K' hHeld
 generalize wc.drew.setCells q 0 [.string d.topic, .int .i64 d.index, .int .i64 d.time, .string d.key, .string bd] = wd at *
 refine wpAnyH_done (by kernel_rfl) ?_ _
 go_wp2_with fail
 refine ret_tttc (s0 := 2) (s1 := 3) (s2 := 4) (s3 := 5) (t3 := 56) rfl rfl B3.out Tryz.underlying56 rfl (by kernel_rfl) rfl ?_
 have hown := ownsRow_far KO.out hx4.1 (show q < w3.heap.size by omega)
 obtain ⟨V', cv', hV, sf⟩ := slf_own hown
 obtain ⟨rfl, rfl⟩ : (some ⟨b, off, none⟩ : Option Addr) = V' ∧ cv = cv' := by simpa using hV
 refine ⟨Below.trans HE.out (ExtBut.lower hx4.1 (by omega) HE.out.size), n, _, cv, L, k, hk, bd, hn1, hn4, hM1.2, HR.out, HDr.out, hbd, sf.mono (fun x hx => ?_), ?_⟩
 · unfold FromB at hx ⊢; omega
 · rw [← HDL.out]; rfl
end Go.Proofs.YtgeengkdgdjcjaaGreat
