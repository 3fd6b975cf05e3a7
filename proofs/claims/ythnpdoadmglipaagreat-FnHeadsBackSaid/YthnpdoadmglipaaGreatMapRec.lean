/-
  ReadHead; ReadHd; Reopen1; MapStr; MapRec: No condition.
-/
import Derived.Test.YthnpdoadmglipaaGreatHeadRead
import Derived.Test.YthnpdoadmglipaaGreatFramesLaw
import Derived.Test.YthnpdoadmglipaaGreatWords
import Derived.Test.YthnpdoadmglipaaGreatClientNw
import Derived.Test.YthnpdoadmglipaaGreatHashTop
import Derived.Maps.OwnSet
import Derived.Test.YthnpdoadmglipaaGreatLeaf
import Derived.Test.YthnpdoadmglipaaGreatHeadOps
import Derived.DeepKeys4
namespace Go.Proofs.YthnpdoadmglipaaGreat
set_option maxHeartbeats 2000000
set_option maxRecDepth 100000
set_option linter.unusedSimpArgs false
open Go.RowKit
set_option linter.unusedVariables false
def headT (h : HeadD) : ByteArray := lowB h.number.toNat 2 ++ lowB h.size.toNat 2 ++ h.root ++ lowB h.taken.toNat 2 ++ h.takenRoot
def headText (n : Int) (h : HeadD) : ByteArray := if headOk n h then headT h else ⟨#[]⟩
theorem headOk_bounds {n : Int} {h : HeadD} (hk : headOk n h = true) : 1 ≤ n ∧ n ≤ 32 ∧ 0 ≤ h.number ∧ h.number ≤ 399 ∧ 0 ≤ h.size ∧ h.size ≤ 512 ∧ (h.root.size : Int) = n ∧ 0 ≤ h.taken ∧ h.taken ≤ 512 ∧ (h.takenRoot.size : Int) = n := by
 simp only [headOk, rootB, Bool.and_eq_true, beq_iff_eq] at hk
 obtain ⟨⟨⟨h1, h2⟩, ⟨h3, h4⟩, _⟩, ⟨h5, h6⟩, _⟩ := hk
 have := inR_true h1
 have := inR_true h2
 have := inR_true h3
 have := inR_true h5
 omega
theorem specHeadText_any (n : Int) (d : HeadD) (w : World) : Calls Tryz.prog 93 #[.int .i64 n, .agg #[.int .i64 d.number, .int .i64 d.size, .string d.root, .int .i64 d.taken, .string d.takenRoot]] w fun e w' => e = .returned (.tuple #[.string (headText n d), .bool (headOk n d)]) ∧ Ext w w' := by
 have K0 := hU (Blk.new w 33 #[.int .i64 d.number, .int .i64 d.size, .string d.root, .int .i64 d.taken, .string d.takenRoot])
 have He := hU (Ext.new (Below.refl w.heap.size w) (.cells #[.int .i64 d.number, .int .i64 d.size, .string d.root, .int .i64 d.taken, .string d.takenRoot] 33))
 cases b : headOk n d
 · have Ht := hU (show headText n d = ⟨#[]⟩ by simp [headText, b])
   go_enter Tryz.func93, Tryz.ntmps93
   go_wp2_with fail
   refine (specHeadOk_any n d _).mono ?_
   rintro e w1 ⟨rfl, h1⟩
   have he := He.out.next h1
   go_wp2_with fail
   go_ret2
   exact ⟨by rw [Ht.out]; rfl, he⟩
 · have Ht := hU (show headText n d = lowB d.number.toNat 2 ++ lowB d.size.toNat 2 ++ d.root ++ lowB d.taken.toNat 2 ++ d.takenRoot by simp [headText, b, headT])
   obtain ⟨z0, z1, z2, z3, z4, z5, z6, z7, z8, z9⟩ := headOk_bounds b
   have y1 : (lowB d.number.toNat 2).size ≤ 2 := by rw [lowB_size]; exact Nat.le_refl _
   have y2 : (lowB d.size.toNat 2).size ≤ 2 := by rw [lowB_size]; exact Nat.le_refl _
   have y3 : (lowB d.taken.toNat 2).size ≤ 2 := by rw [lowB_size]; exact Nat.le_refl _
   have n1 : ¬ 9223372036854775807 < (lowB d.number.toNat 2).size + (lowB d.size.toNat 2).size := by omega
   have n2 : ¬ 9223372036854775807 < (lowB d.number.toNat 2).size + (lowB d.size.toNat 2).size + d.root.size := by omega
   have n3 : ¬ 9223372036854775807 < (lowB d.number.toNat 2).size + (lowB d.size.toNat 2).size + d.root.size + (lowB d.taken.toNat 2).size := by omega
   have n4 : ¬ 9223372036854775807 < (lowB d.number.toNat 2).size + (lowB d.size.toNat 2).size + d.root.size + (lowB d.taken.toNat 2).size + d.takenRoot.size := by omega
   clear z0 z1 z6 z9
   go_enter Tryz.func93, Tryz.ntmps93
   go_wp2_with fail
   obtain ⟨g, hg⟩ : ∃ g, g = w.heap.size := ⟨_, rfl⟩
   rw [← hg] at K0
   rw [← hg]
   clear hg
   refine (specHeadOk_any n d _).mono ?_
   rintro e w1 ⟨rfl, h1⟩
   have he := He.out.next h1
   have hB := K0.out.ext h1
   clear h1 K0 He
   have c0 := hB.cell 0
   have c1 := hB.cell 1
   have c2 := hB.cell 2
   have c3 := hB.cell 3
   have c4 := hB.cell 4
   go_wp2_with fail
   go_region_held3 (fun w' => w'.cell? ⟨g, 0, none⟩ = some (.int .i64 d.number) ∧ w'.cell? ⟨g, 1, none⟩ = some (.int .i64 d.size) ∧ w'.cell? ⟨g, 2, none⟩ = some (.string d.root) ∧ w'.cell? ⟨g, 3, none⟩ = some (.int .i64 d.taken) ∧ w'.cell? ⟨g, 4, none⟩ = some (.string d.takenRoot) ∧ Blk w' g 33 #[.int .i64 d.number, .int .i64 d.size, .string d.root, .int .i64 d.taken, .string d.takenRoot] ∧ Ext w w')
    (first
     | exact ⟨c0, c1, c2, c3, c4, hB.drew, he.drew⟩
     | (go_split_ands; refine ⟨?_, ?_, ?_, ?_, ?_, ?_, ?_⟩ <;> assumption)
     | (go_split_ands; have hB' := Blk.ext (by assumption) h1; exact ⟨hB'.cell 0, hB'.cell 1, hB'.cell 2, hB'.cell 3, hB'.cell 4, hB', Ext.next (by assumption) h1⟩))
    (first
     | (go_at_call 86; refine (l03NumberI_any _ 2 _ (by omega) (by omega) (by decide)).mono ?_; rintro e w' ⟨rfl, h1⟩))
   all_goals
    go_wp2_with fail
    go_ret2
    refine ⟨by rw [Ht.out]; rfl, ?_⟩
    go_split_ands
    assumption
def rh0 : Rd := ⟨0, false⟩
def hrD (n : Int) (T : ByteArray) : HeadD := rhD T rh0 n.toNat
def hrImpl (n : Int) (T : ByteArray) : Bool := inR n 1 32 && (rdDone T (rh5 T rh0 n.toNat) && headOk n (hrD n T))
def hrOut (ok : Bool) (d : HeadD) : HeadD := if ok then d else ⟨0, 0, ⟨#[]⟩, 0, ⟨#[]⟩⟩
def hrRes (ok : Bool) (d : HeadD) : Ending := .returned (.tuple #[.agg (hrOut ok d).cells.toArray, .bool ok])
def HeadD.zero : HeadD := ⟨0, 0, ⟨#[]⟩, 0, ⟨#[]⟩⟩
set_option maxHeartbeats 4000000
theorem implReadHead_any (n : Int) (T : ByteArray) (w : World) (hT : T.size ≤ 1099511627776) :
 Calls Tryz.prog 10 #[.int .i64 n, .string T] w fun e w' => e = hrRes (hrImpl n T) (hrD n T) ∧ Ext w w' := by
 have Z0 := Blk.new w 33 #[.int .i64 0, .int .i64 0, .string ⟨#[]⟩, .int .i64 0, .string ⟨#[]⟩]
 have He0 := Ext.new (Below.refl w.heap.size w) (.cells #[.int .i64 0, .int .i64 0, .string ⟨#[]⟩, .int .i64 0, .string ⟨#[]⟩] 33)
 cases b1 : inR n 1 32
 · have Hi := hU (show hrImpl n T = false by simp [hrImpl, b1])
   obtain ⟨zc, zf⟩ := Z0.rules
   go_enter Tryz.func10, Tryz.ntmps10
   go_wp2_with (go_at_call 25; refine (isWidth_any _ _).mono ?_; rintro e w' ⟨rfl, rfl⟩)
   refine ret_row_tmp rfl rfl Z0 Tryz.underlying33 rfl (by kernel_rfl) rfl ⟨?_, He0⟩
   rw [Hi.out]; rfl
 obtain ⟨lw0, lw1⟩ := inR_true b1
 obtain ⟨m, rfl⟩ := Int.eq_ofNat_of_zero_le (show 0 ≤ n by omega)
 obtain ⟨fin, hfin⟩ : ∃ fin, fin = hrRes (hrImpl (m : Int) T) (hrD (m : Int) T) := ⟨_, rfl⟩
 rw [← hfin]
 have hD0 : hrD (m : Int) T = rhD T rh0 m := by simp [hrD]
 have hI0 : hrImpl (m : Int) T = (rdDone T (rh5 T rh0 m) && headOk (m : Int) (rhD T rh0 m)) := by simp only [hrImpl, b1, hD0, Int.toNat_natCast, Bool.true_and]
 rw [hD0, hI0] at hfin
 have Hfin := hU hfin
 have KZ := hU Z0
 have KE := hU He0
 clear hfin hD0 hI0 Z0 He0
 go_enter Tryz.func10, Tryz.ntmps10
 go_wp2_with (go_at_call 25; refine (isWidth_any _ _).mono ?_; rintro e w' ⟨rfl, rfl⟩)
 have hB : Blk _ _ 69 (rdCells T rh0) := Blk.new (w.alloc (.cells #[.int .i64 0, .int .i64 0, .string ⟨#[]⟩, .int .i64 0, .string ⟨#[]⟩] 33)) 69 #[.string T, .int .i64 0, .bool false]
 have hZ := KZ.out.alloc (.cells #[.string T, .int .i64 0, .bool false] 69)
 have he := KE.out.new (.cells #[.string T, .int .i64 0, .bool false] 69)
 simp only [World.size_alloc] at hB
 clear KZ KE
 obtain ⟨g, hg⟩ : ∃ g, g = w.heap.size := ⟨_, rfl⟩
 rw [← hg] at hB hZ
 rw [← hg]
 have Hg : w.heap.size ≤ g := by omega
 clear hg
 refine (rHead_any (g + 1) T rh0 m _ hB (Nat.zero_le _) hT (by omega)).mono ?_
 rintro e w1 ⟨rfl, hB, hx⟩
 replace hZ := hZ.extBut hx (by omega); replace he := he.nextBut (by omega) hx; clear hx
 obtain ⟨d, hd⟩ : ∃ d, d = rhD T rh0 m := ⟨_, rfl⟩
 rw [← hd]
 rw [← hd] at Hfin
 have Hd := hU hd
 clear hd
 have hgl := hZ.lt
 have hgl1 := hB.lt
 go_wp2_with fail
 have hD := Blk.new w1 33 #[.int .i64 d.number, .int .i64 d.size, .string d.root, .int .i64 d.taken, .string d.takenRoot]
 replace hZ := hZ.alloc (.cells #[.int .i64 d.number, .int .i64 d.size, .string d.root, .int .i64 d.taken, .string d.takenRoot] 33)
 replace hB := hB.alloc (.cells #[.int .i64 d.number, .int .i64 d.size, .string d.root, .int .i64 d.taken, .string d.takenRoot] 33)
 replace he := he.new (.cells #[.int .i64 d.number, .int .i64 d.size, .string d.root, .int .i64 d.taken, .string d.takenRoot] 33)
 obtain ⟨g2, hg2⟩ : ∃ g2, g2 = w1.heap.size := ⟨_, rfl⟩
 rw [← hg2] at hD hgl hgl1
 rw [← hg2]
 clear hg2
 generalize w1.alloc (.cells #[.int .i64 d.number, .int .i64 d.size, .string d.root, .int .i64 d.taken, .string d.takenRoot] 33) = w2 at *
 refine (done_any _ T (rh5 T rh0 m) w2 hB).mono ?_
 rintro e w3 ⟨rfl, k, rfl⟩
 replace hZ := hZ.drewN k; replace hD := hD.drewN k; replace he := he.drewN k
 clear hB
 generalize w2.drewN k = w4 at *
 obtain ⟨dc, df⟩ := hD.rules
 obtain ⟨zc, zf⟩ := hZ.rules
 cases b2 : rdDone T (rh5 T rh0 m)
 · have Hi := hU (show fin = hrRes false d by rw [Hfin.out, b2]; rfl)
   clear Hfin
   go_wp2_with fail
   have hz := hZ.put 0 HeadD.zero.cells HeadD.zero.cells.toArray (by decide) rfl
   have hx := ext_setCells (W := w) (g := g) Hg HeadD.zero.cells 0 w4 he
   refine ret_row_tmp rfl rfl hz Tryz.underlying33 rfl (by kernel_rfl) rfl ⟨?_, hx⟩
   rw [Hi.out]; rfl
 cases b3 : headOk (m : Int) d
 · have Hi := hU (show fin = hrRes false d by rw [Hfin.out, b2, b3]; rfl)
   clear Hfin
   go_wp2_with fail
   refine (implHeadOk_any _ d w4).mono ?_
   rintro e w5 ⟨rfl, h1⟩
   replace hZ := hZ.ext h1; replace hD := hD.ext h1; replace he := he.next h1
   clear h1 dc df zc zf
   obtain ⟨zc, zf⟩ := hZ.rules
   go_wp2_with fail
   have hz := hZ.put 0 HeadD.zero.cells HeadD.zero.cells.toArray (by decide) rfl
   have hx := ext_setCells (W := w) (g := g) Hg HeadD.zero.cells 0 w5 he
   refine ret_row_tmp rfl rfl hz Tryz.underlying33 rfl (by kernel_rfl) rfl ⟨?_, hx⟩
   rw [Hi.out]; rfl
 · have Hi := hU (show fin = hrRes true d by rw [Hfin.out, b2, b3]; rfl)
   clear Hfin
   go_wp2_with fail
   refine (implHeadOk_any _ d w4).mono ?_
   rintro e w5 ⟨rfl, h1⟩
   replace hZ := hZ.ext h1; replace hD := hD.ext h1; replace he := he.next h1
   clear h1 dc df zc zf
   obtain ⟨zc, zf⟩ := hZ.rules
   obtain ⟨dc, df⟩ := hD.rules
   go_wp2_with fail
   have hz := hZ.put 0 d.cells d.cells.toArray (by simp [HeadD.cells]) rfl
   have hx := ext_setCells (W := w) (g := g) Hg d.cells 0 w5 he
   refine ret_row_tmp rfl rfl hz Tryz.underlying33 rfl (by kernel_rfl) rfl ⟨?_, hx⟩
   rw [Hi.out]; rfl

end Go.Proofs.YthnpdoadmglipaaGreat
namespace Go.Proofs.YthnpdoadmglipaaGreat
set_option linter.unusedSimpArgs false
open Go.RowKit Go.WideMaps Go.Maps
set_option linter.unusedVariables false
theorem mapKeyed : Keyed Tryz.prog 9 := string_keyed Tryz.underlying9
theorem mapZero (w : World) : (zeroValue 3).run Tryz.prog w = .ok (.int .i64 0) w := by kernel_rfl
def skey (s : ByteArray) : Lit := .string s.data.toList
theorem skey_inj {s t : ByteArray} (h : skey s = skey t) : s = t := by
 simp only [skey, Lit.string.injEq] at h
 exact ByteArray.ext (Array.toList_inj.1 h)
def MapAt (w : World) (B n : Nat) (f : ByteArray → Option Nat) : Prop :=
 ∃ D : DataW Unit, w.ownsMap Tryz.prog 9 (plainElem Tryz.prog 3) B n D ∧ ∀ s, Maps.has D (skey s) = (f s).isSome ∧ D.atKey (skey s) (.lit (.int .i64 0)) = .lit (.int .i64 (((f s).getD 0 : Nat) : Int))
theorem MapAt.made (w : World) : MapAt (w.alloc (.map #[] 0)) w.heap.size 0 (fun _ => none) :=
 ⟨.map [], World.ownsMap_made _ _ _ _, fun s => ⟨rfl, rfl⟩⟩
theorem MapAt.lt {w : World} {B n : Nat} {f : ByteArray → Option Nat} (h : MapAt w B n f) : B < w.heap.size := by obtain ⟨D, h, _⟩ := h; exact h.lt
theorem ownsMap_ext {H : Type} {P : Program} {k : TypeId} {R : Value → Option (DataW H × List MemPlace)} {w w' : World} {B n : Nat} {D : DataW H} (h : w.ownsMap P k R B n D) (he : Ext w w') : w'.ownsMap P k R B n D := by
 have hlt := h.lt
 obtain ⟨es, clock, hb, r⟩ := h
 exact ⟨es, clock, (he.block B hlt).trans hb, r⟩
theorem MapAt.ext {w w' : World} {B n : Nat} {f : ByteArray → Option Nat} (h : MapAt w B n f) (he : Ext w w') : MapAt w' B n f := by
 obtain ⟨D, h, k⟩ := h
 exact ⟨D, ownsMap_ext h he, k⟩
theorem MapAt.mono {w : World} {B n m : Nat} {f : ByteArray → Option Nat} (h : MapAt w B n f) (hm : n ≤ m) : MapAt w B m f := by
 obtain ⟨D, h, k⟩ := h
 exact ⟨D, h.mono hm, k⟩
theorem MapAt.look {w : World} {B n : Nat} {f : ByteArray → Option Nat} (h : MapAt w B n f) (s : ByteArray) (hs : s.size ≤ maxLen) : (Instr.lookup 133 (.map (some B)) (.string s) true).run Tryz.prog w = .ok (.tuple #[.int .i64 (((f s).getD 0 : Nat) : Int), .bool (f s).isSome]) w := by
 obtain ⟨D, h, k⟩ := h
 obtain ⟨v, ps, hrun, hv⟩ := h.look_ok mapKeyed Tryz.underlying133 (mapZero w) (plainElem_int Tryz.underlying3 (by decide)) (keyOf_string_mk Tryz.underlying9 hs)
 obtain ⟨c, rfl, hc, _⟩ := plainElem_int_inv Tryz.underlying3 hv
 have h2 := (k s).2
 have h1 := (k s).1
 simp only [Prod.mk.injEq] at hc
 rw [show (Lit.string s.data.toList) = skey s from rfl] at hc hrun
 rw [hc.1] at h2
 simp only [DataW.lit.injEq, Lit.int.injEq, true_and] at h2
 rw [hrun, h1, h2]
def fput (f : ByteArray → Option Nat) (s : ByteArray) (m : Nat) : ByteArray → Option Nat := fun t => if t = s then some m else f t
theorem MapAt.put {w' : World} {B n m : Nat} {f : ByteArray → Option Nat} {s : ByteArray} {D : DataW Unit} (hD : ∀ s, Maps.has D (skey s) = (f s).isSome ∧ D.atKey (skey s) (.lit (.int .i64 0)) = .lit (.int .i64 (((f s).getD 0 : Nat) : Int)))
 (hm : IsMap D) (h' : w'.ownsMap Tryz.prog 9 (plainElem Tryz.prog 3) B (n + 1) (D.put (skey s) (.lit (.int .i64 (m : Int))))) : MapAt w' B (n + 1) (fput f s m) := by
 refine ⟨_, h', fun t => ?_⟩
 unfold fput
 by_cases e : t = s
 · subst e
   simp only [if_true, Option.isSome_some, Option.getD_some]
   exact ⟨has_put_same hm (show WideAt.IsKeyLit (.string _) from trivial) _, atKey_put_same hm (show WideAt.IsKeyLit (.string _) from trivial) _ _⟩
 · have hne : skey t ≠ skey s := fun h => e (skey_inj h)
   rw [if_neg e, has_put_other hne, atKey_put_other hne]
   exact hD t
theorem Blk.grown {w w' : World} {g : Nat} {t : TypeId} {cs : Array Value} {row : Option Nat} (h : Blk w g t cs) (hg : w.grownBy w' row) (hne : some g ≠ row) : Blk w' g t cs := (hg.block g h.lt hne).trans h
set_option maxRecDepth 100000
theorem recKeyed : Keyed Tryz.prog 92 := Keyed.of_law (deep_law_laid (by kernel_rfl) (m := 2) (by omega) (of_decide_eq_true (by kernel_rfl)) (by kernel_rfl) (by rw [Tryz.underlying92]))
def rval (d : ReceiptD) : Value := .agg #[.string d.reader, .string d.topic, .int .i64 d.index]
theorem rval_inj {a b : ReceiptD} (h : rval a = rval b) : a = b := by
 obtain ⟨a1, a2, a3⟩ := a
 obtain ⟨b1, b2, b3⟩ := b
 simpa [rval] using h
theorem rec_key (d : ReceiptD) (hd : d.Ok) : ∃ l, keyOf Tryz.prog 92 (rval d) = some l := by
 obtain ⟨h1, h2, h3⟩ := hd
 obtain ⟨m, hm⟩ : ∃ m, Tryz.prog.types.size = m + 1 := ⟨_, rfl⟩
 have k1 : Tryz.prog.keyType 92 = true := by kernel_rfl
 have k2 : Tryz.prog.cellsOf 92 = 3 := by kernel_rfl
 have k3 : Tryz.prog.cellsOf 3 = 1 := by kernel_rfl
 have k4 : Tryz.prog.cellsOf 9 = 1 := by kernel_rfl
 have k5 : (rval d).formed Tryz.prog 92 = true := by simp [rval, Value.formed, Tryz.underlying92, k2]
 unfold keyOf
 rw [Tryz.underlying92]
 simp only [k1, k5, Bool.and_self, if_true, hm]
 simp [Program.keyLits, Tryz.underlying92, Tryz.underlying3, Tryz.underlying9, k2, k3, k4, rval, Value.cells, h1, h2, h3]
noncomputable def rkey (d : ReceiptD) : Lit := (keyOf Tryz.prog 92 (rval d)).getD (.bool false)
theorem rkey_of (d : ReceiptD) (hd : d.Ok) : keyOf Tryz.prog 92 (rval d) = some (rkey d) := by
 obtain ⟨l, h⟩ := rec_key d hd
 rw [rkey, h]; rfl
theorem rkey_lit (d : ReceiptD) (hd : d.Ok) : WideAt.IsKeyLit (rkey d) := recKeyed.key (rkey_of d hd)
theorem rkey_inj {a b : ReceiptD} (ha : a.Ok) (hb : b.Ok) (h : rkey a = rkey b) : a = b :=
 rval_inj (recKeyed.inj (rkey_of a ha) (by rw [h]; exact rkey_of b hb))
def MapAtR (w : World) (B n : Nat) (f : ReceiptD → Option Nat) : Prop :=
 ∃ D : DataW Unit, w.ownsMap Tryz.prog 92 (plainElem Tryz.prog 3) B n D ∧ ∀ s : ReceiptD, s.Ok → Maps.has D (rkey s) = (f s).isSome ∧ D.atKey (rkey s) (.lit (.int .i64 0)) = .lit (.int .i64 (((f s).getD 0 : Nat) : Int))
theorem MapAtR.made (w : World) : MapAtR (w.alloc (.map #[] 0)) w.heap.size 0 (fun _ => none) :=
 ⟨.map [], World.ownsMap_made _ _ _ _, fun s _ => ⟨rfl, rfl⟩⟩
theorem MapAtR.lt {w : World} {B n : Nat} {f : ReceiptD → Option Nat} (h : MapAtR w B n f) : B < w.heap.size := by obtain ⟨D, h, _⟩ := h; exact h.lt
theorem MapAtR.ext {w w' : World} {B n : Nat} {f : ReceiptD → Option Nat} (h : MapAtR w B n f) (he : Ext w w') : MapAtR w' B n f := by
 obtain ⟨D, h, k⟩ := h
 exact ⟨D, ownsMap_ext h he, k⟩
theorem MapAtR.mono {w : World} {B n m : Nat} {f : ReceiptD → Option Nat} (h : MapAtR w B n f) (hm : n ≤ m) : MapAtR w B m f := by
 obtain ⟨D, h, k⟩ := h
 exact ⟨D, h.mono hm, k⟩
def rput (f : ReceiptD → Option Nat) (s : ReceiptD) (m : Nat) : ReceiptD → Option Nat := fun t => if t.eqb s then some m else f t
theorem MapAtR.put {w' : World} {B n m : Nat} {f : ReceiptD → Option Nat} {s : ReceiptD} (hs : s.Ok) {D : DataW Unit} (hD : ∀ s : ReceiptD, s.Ok → Maps.has D (rkey s) = (f s).isSome ∧ D.atKey (rkey s) (.lit (.int .i64 0)) = .lit (.int .i64 (((f s).getD 0 : Nat) : Int)))
 (hm : IsMap D) (h' : w'.ownsMap Tryz.prog 92 (plainElem Tryz.prog 3) B (n + 1) (D.put (rkey s) (.lit (.int .i64 (m : Int))))) : MapAtR w' B (n + 1) (rput f s m) := by
 refine ⟨_, h', fun t ht => ?_⟩
 unfold rput
 cases e : t.eqb s
 · have hne : rkey t ≠ rkey s := fun h => by rw [rkey_inj ht hs h, ReceiptD.eqb_self] at e; cases e
   simp only [Bool.false_eq_true, if_false]
   rw [has_put_other hne, atKey_put_other hne]
   exact hD t ht
 · obtain rfl := (ReceiptD.eqb_iff t s).1 e
   simp only [if_true, Option.isSome_some, Option.getD_some]
   exact ⟨has_put_same hm (rkey_lit t hs) _, atKey_put_same hm (rkey_lit t hs) _ _⟩
end Go.Proofs.YthnpdoadmglipaaGreat
