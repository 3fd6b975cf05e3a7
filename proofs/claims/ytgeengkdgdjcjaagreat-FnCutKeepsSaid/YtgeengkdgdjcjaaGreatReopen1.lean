/-
  ReadHead; ReadHd; Reopen1: No condition.
-/
import Derived.Test.YtgeengkdgdjcjaaGreatHeadRead
import Derived.Test.YtgeengkdgdjcjaaGreatFrames
import Derived.Test.YtgeengkdgdjcjaaGreatWords
import Derived.Test.YtgeengkdgdjcjaaGreatClientNw
namespace Go.Proofs.YtgeengkdgdjcjaaGreat
set_option maxHeartbeats 2000000
set_option maxRecDepth 100000
set_option linter.unusedSimpArgs false
open Go.RowKit
set_option linter.unusedVariables false
def headT (h : HeadD) : ByteArray := lowB h.number.toNat 2 ++ lowB h.size.toNat 2 ++ h.root ++ lowB h.taken.toNat 2 ++ h.takenRoot
def headText (n : Int) (h : HeadD) : ByteArray := if headOk n h then headT h else ⟨#[]⟩
theorem headOk_bounds {n : Int} {h : HeadD} (hk : headOk n h = true) : 1 ≤ n ∧ n ≤ 32 ∧ 0 ≤ h.number ∧ h.number ≤ 399 ∧ 0 ≤ h.size ∧ h.size ≤ 512 ∧ (h.root.size : Int) = n ∧ 0 ≤ h.taken ∧ h.taken ≤ 512 ∧ (h.takenRoot.size : Int) = n := by
 simp only [headOk, rootB, Bool.and_eq_true, beq_iff_eq] at hk
 obtain ⟨⟨⟨h1, h2⟩, ⟨h3, h4⟩, _⟩, ⟨h5, h6⟩, _⟩ := hk
 have := inR_true h1
 have := inR_true h2
 have := inR_true h3
 have := inR_true h5
 omega
theorem specHeadText_any (n : Int) (d : HeadD) (w : World) : Calls Tryz.prog 180 #[.int .i64 n, .agg #[.int .i64 d.number, .int .i64 d.size, .string d.root, .int .i64 d.taken, .string d.takenRoot]] w fun e w' => e = .returned (.tuple #[.string (headText n d), .bool (headOk n d)]) ∧ Ext w w' := by
 have K0 := hU (Blk.new w 33 #[.int .i64 d.number, .int .i64 d.size, .string d.root, .int .i64 d.taken, .string d.takenRoot])
 have He := hU (Ext.new (Below.refl w.heap.size w) (.cells #[.int .i64 d.number, .int .i64 d.size, .string d.root, .int .i64 d.taken, .string d.takenRoot] 33))
 cases b : headOk n d
 · have Ht := hU (show headText n d = ⟨#[]⟩ by simp [headText, b])
   go_enter Tryz.func180, Tryz.ntmps180
   go_wp2_with fail
   refine (specHeadOk_any n d _).mono ?_
   rintro e w1 ⟨rfl, h1⟩
   have he := He.out.next h1
   go_wp2_with fail
   go_ret2
   exact ⟨by rw [Ht.out]; rfl, he⟩
 · have Ht := hU (show headText n d = lowB d.number.toNat 2 ++ lowB d.size.toNat 2 ++ d.root ++ lowB d.taken.toNat 2 ++ d.takenRoot by simp [headText, b, headT])
   obtain ⟨z0, z1, z2, z3, z4, z5, z6, z7, z8, z9⟩ := headOk_bounds b
   have y1 : (lowB d.number.toNat 2).size ≤ 2 := by rw [lowB_size]; exact Nat.le_refl _
   have y2 : (lowB d.size.toNat 2).size ≤ 2 := by rw [lowB_size]; exact Nat.le_refl _
   have y3 : (lowB d.taken.toNat 2).size ≤ 2 := by rw [lowB_size]; exact Nat.le_refl _
   have n1 : ¬ 9223372036854775807 < (lowB d.number.toNat 2).size + (lowB d.size.toNat 2).size := by omega
   have n2 : ¬ 9223372036854775807 < (lowB d.number.toNat 2).size + (lowB d.size.toNat 2).size + d.root.size := by omega
   have n3 : ¬ 9223372036854775807 < (lowB d.number.toNat 2).size + (lowB d.size.toNat 2).size + d.root.size + (lowB d.taken.toNat 2).size := by omega
   have n4 : ¬ 9223372036854775807 < (lowB d.number.toNat 2).size + (lowB d.size.toNat 2).size + d.root.size + (lowB d.taken.toNat 2).size + d.takenRoot.size := by omega
   clear z0 z1 z6 z9
   go_enter Tryz.func180, Tryz.ntmps180
   go_wp2_with fail
   obtain ⟨g, hg⟩ : ∃ g, g = w.heap.size := ⟨_, rfl⟩
   rw [← hg] at K0
   rw [← hg]
   clear hg
   refine (specHeadOk_any n d _).mono ?_
   rintro e w1 ⟨rfl, h1⟩
   have he := He.out.next h1
   have hB := K0.out.ext h1
   clear h1 K0 He
   have c0 := hB.cell 0
   have c1 := hB.cell 1
   have c2 := hB.cell 2
   have c3 := hB.cell 3
   have c4 := hB.cell 4
   go_wp2_with fail
   go_region_held3 (fun w' => w'.cell? ⟨g, 0, none⟩ = some (.int .i64 d.number) ∧ w'.cell? ⟨g, 1, none⟩ = some (.int .i64 d.size) ∧ w'.cell? ⟨g, 2, none⟩ = some (.string d.root) ∧ w'.cell? ⟨g, 3, none⟩ = some (.int .i64 d.taken) ∧ w'.cell? ⟨g, 4, none⟩ = some (.string d.takenRoot) ∧ Blk w' g 33 #[.int .i64 d.number, .int .i64 d.size, .string d.root, .int .i64 d.taken, .string d.takenRoot] ∧ Ext w w')
    (first
     | exact ⟨c0, c1, c2, c3, c4, hB.drew, he.drew⟩
     | (go_split_ands; refine ⟨?_, ?_, ?_, ?_, ?_, ?_, ?_⟩ <;> assumption)
     | (go_split_ands; have hB' := Blk.ext (by assumption) h1; exact ⟨hB'.cell 0, hB'.cell 1, hB'.cell 2, hB'.cell 3, hB'.cell 4, hB', Ext.next (by assumption) h1⟩))
    (first
     | (go_at_call 99; refine (l03NumberI_any _ 2 _ (by omega) (by omega) (by decide)).mono ?_; rintro e w' ⟨rfl, h1⟩))
   all_goals
    go_wp2_with fail
    go_ret2
    refine ⟨by rw [Ht.out]; rfl, ?_⟩
    go_split_ands
    assumption
def rh0 : Rd := ⟨0, false⟩
def hrD (n : Int) (T : ByteArray) : HeadD := rhD T rh0 n.toNat
def hrImpl (n : Int) (T : ByteArray) : Bool := inR n 1 32 && (rdDone T (rh5 T rh0 n.toNat) && headOk n (hrD n T))
def hrOut (ok : Bool) (d : HeadD) : HeadD := if ok then d else ⟨0, 0, ⟨#[]⟩, 0, ⟨#[]⟩⟩
def hrRes (ok : Bool) (d : HeadD) : Ending := .returned (.tuple #[.agg (hrOut ok d).cells.toArray, .bool ok])
def HeadD.zero : HeadD := ⟨0, 0, ⟨#[]⟩, 0, ⟨#[]⟩⟩
set_option maxHeartbeats 4000000
theorem implReadHead_any (n : Int) (T : ByteArray) (w : World) (hT : T.size ≤ 1099511627776) :
 Calls Tryz.prog 123 #[.int .i64 n, .string T] w fun e w' => e = hrRes (hrImpl n T) (hrD n T) ∧ Ext w w' := by
 have Z0 := Blk.new w 33 #[.int .i64 0, .int .i64 0, .string ⟨#[]⟩, .int .i64 0, .string ⟨#[]⟩]
 have He0 := Ext.new (Below.refl w.heap.size w) (.cells #[.int .i64 0, .int .i64 0, .string ⟨#[]⟩, .int .i64 0, .string ⟨#[]⟩] 33)
 cases b1 : inR n 1 32
 · have Hi := hU (show hrImpl n T = false by simp [hrImpl, b1])
   obtain ⟨zc, zf⟩ := Z0.rules
   go_enter Tryz.func123, Tryz.ntmps123
   go_wp2_with (go_at_call 53; refine (isWidth_any _ _).mono ?_; rintro e w' ⟨rfl, rfl⟩)
   refine ret_row_tmp rfl rfl Z0 Tryz.underlying33 rfl (by kernel_rfl) rfl ⟨?_, He0⟩
   rw [Hi.out]; rfl
 obtain ⟨lw0, lw1⟩ := inR_true b1
 obtain ⟨m, rfl⟩ := Int.eq_ofNat_of_zero_le (show 0 ≤ n by omega)
 obtain ⟨fin, hfin⟩ : ∃ fin, fin = hrRes (hrImpl (m : Int) T) (hrD (m : Int) T) := ⟨_, rfl⟩
 rw [← hfin]
 have hD0 : hrD (m : Int) T = rhD T rh0 m := by simp [hrD]
 have hI0 : hrImpl (m : Int) T = (rdDone T (rh5 T rh0 m) && headOk (m : Int) (rhD T rh0 m)) := by simp only [hrImpl, b1, hD0, Int.toNat_natCast, Bool.true_and]
 rw [hD0, hI0] at hfin
 have Hfin := hU hfin
 have KZ := hU Z0
 have KE := hU He0
 clear hfin hD0 hI0 Z0 He0
 go_enter Tryz.func123, Tryz.ntmps123
 go_wp2_with (go_at_call 53; refine (isWidth_any _ _).mono ?_; rintro e w' ⟨rfl, rfl⟩)
 have hB : Blk _ _ 248 (rdCells T rh0) := Blk.new (w.alloc (.cells #[.int .i64 0, .int .i64 0, .string ⟨#[]⟩, .int .i64 0, .string ⟨#[]⟩] 33)) 248 #[.string T, .int .i64 0, .bool false]
 have hZ := KZ.out.alloc (.cells #[.string T, .int .i64 0, .bool false] 248)
 have he := KE.out.new (.cells #[.string T, .int .i64 0, .bool false] 248)
 simp only [World.size_alloc] at hB
 clear KZ KE
 obtain ⟨g, hg⟩ : ∃ g, g = w.heap.size := ⟨_, rfl⟩
 rw [← hg] at hB hZ
 rw [← hg]
 have Hg : w.heap.size ≤ g := by omega
 clear hg
 refine (rHead_any (g + 1) T rh0 m _ hB (Nat.zero_le _) hT (by omega)).mono ?_
 rintro e w1 ⟨rfl, hB, hx⟩
 replace hZ := hZ.extBut hx (by omega); replace he := he.nextBut (by omega) hx; clear hx
 obtain ⟨d, hd⟩ : ∃ d, d = rhD T rh0 m := ⟨_, rfl⟩
 rw [← hd]
 rw [← hd] at Hfin
 have Hd := hU hd
 clear hd
 have hgl := hZ.lt
 have hgl1 := hB.lt
 go_wp2_with fail
 have hD := Blk.new w1 33 #[.int .i64 d.number, .int .i64 d.size, .string d.root, .int .i64 d.taken, .string d.takenRoot]
 replace hZ := hZ.alloc (.cells #[.int .i64 d.number, .int .i64 d.size, .string d.root, .int .i64 d.taken, .string d.takenRoot] 33)
 replace hB := hB.alloc (.cells #[.int .i64 d.number, .int .i64 d.size, .string d.root, .int .i64 d.taken, .string d.takenRoot] 33)
 replace he := he.new (.cells #[.int .i64 d.number, .int .i64 d.size, .string d.root, .int .i64 d.taken, .string d.takenRoot] 33)
 obtain ⟨g2, hg2⟩ : ∃ g2, g2 = w1.heap.size := ⟨_, rfl⟩
 rw [← hg2] at hD hgl hgl1
 rw [← hg2]
 clear hg2
 generalize w1.alloc (.cells #[.int .i64 d.number, .int .i64 d.size, .string d.root, .int .i64 d.taken, .string d.takenRoot] 33) = w2 at *
 refine (done_any _ T (rh5 T rh0 m) w2 hB).mono ?_
 rintro e w3 ⟨rfl, k, rfl⟩
 replace hZ := hZ.drewN k; replace hD := hD.drewN k; replace he := he.drewN k
 clear hB
 generalize w2.drewN k = w4 at *
 obtain ⟨dc, df⟩ := hD.rules
 obtain ⟨zc, zf⟩ := hZ.rules
 cases b2 : rdDone T (rh5 T rh0 m)
 · have Hi := hU (show fin = hrRes false d by rw [Hfin.out, b2]; rfl)
   clear Hfin
   go_wp2_with fail
   have hz := hZ.put 0 HeadD.zero.cells HeadD.zero.cells.toArray (by decide) rfl
   have hx := ext_setCells (W := w) (g := g) Hg HeadD.zero.cells 0 w4 he
   refine ret_row_tmp rfl rfl hz Tryz.underlying33 rfl (by kernel_rfl) rfl ⟨?_, hx⟩
   rw [Hi.out]; rfl
 cases b3 : headOk (m : Int) d
 · have Hi := hU (show fin = hrRes false d by rw [Hfin.out, b2, b3]; rfl)
   clear Hfin
   go_wp2_with fail
   refine (implHeadOk_any _ d w4).mono ?_
   rintro e w5 ⟨rfl, h1⟩
   replace hZ := hZ.ext h1; replace hD := hD.ext h1; replace he := he.next h1
   clear h1 dc df zc zf
   obtain ⟨zc, zf⟩ := hZ.rules
   go_wp2_with fail
   have hz := hZ.put 0 HeadD.zero.cells HeadD.zero.cells.toArray (by decide) rfl
   have hx := ext_setCells (W := w) (g := g) Hg HeadD.zero.cells 0 w5 he
   refine ret_row_tmp rfl rfl hz Tryz.underlying33 rfl (by kernel_rfl) rfl ⟨?_, hx⟩
   rw [Hi.out]; rfl
 · have Hi := hU (show fin = hrRes true d by rw [Hfin.out, b2, b3]; rfl)
   clear Hfin
   go_wp2_with fail
   refine (implHeadOk_any _ d w4).mono ?_
   rintro e w5 ⟨rfl, h1⟩
   replace hZ := hZ.ext h1; replace hD := hD.ext h1; replace he := he.next h1
   clear h1 dc df zc zf
   obtain ⟨zc, zf⟩ := hZ.rules
   obtain ⟨dc, df⟩ := hD.rules
   go_wp2_with fail
   have hz := hZ.put 0 d.cells d.cells.toArray (by simp [HeadD.cells]) rfl
   have hx := ext_setCells (W := w) (g := g) Hg d.cells 0 w5 he
   refine ret_row_tmp rfl rfl hz Tryz.underlying33 rfl (by kernel_rfl) rfl ⟨?_, hx⟩
   rw [Hi.out]; rfl
theorem info_head : (Tryz.prog.info? 33).map (fun i => (i.zero, i.size, i.bytes)) = some (some (.agg #[.int .i64 0, .int .i64 0, .string ⟨#[]⟩, .int .i64 0, .string ⟨#[]⟩]), 5, 56) := by kernel_rfl
theorem headsOf_any (n : Int) (A : Option Addr) (c : Nat) (l : List ByteArray) (w : World) (hr : ReadsL w w.heap.size sone 1 A l) (hl : l.length ≤ 1048576) (hsz : ∀ x ∈ l, x.size ≤ 1099511627776) :
 Calls Tryz.prog 60 #[.int .i64 n, .slice A l.length c] w fun e w' => Ext w w' ∧ ((l.all (hrImpl n) = false ∧ e = .returned (.tuple #[.slice none 0 0, .bool false])) ∨ (l.all (hrImpl n) = true ∧ ∃ v, e = .returned (.tuple #[v, .bool true]) ∧ w'.ownsRow w.heap.size 33 5 v (l.length + 1) ((newH (inR n 1 32) n :: l.map (hrD n)).flatMap HeadD.cells))) := by
 obtain ⟨i0, hi, hz0, hz1, hz2⟩ := info_parts info_head
 have HR := hU hr; have Hsz := hU hsz
 clear hr hsz
 obtain ⟨h, hh⟩ : ∃ h, h = newH (inR n 1 32) n := ⟨_, rfl⟩
 rw [← hh]
 have Hh := hU hh
 clear hh
 go_enter Tryz.func60, Tryz.ntmps60
 go_wp2_with fail
 refine (implHeadNew_any n _).mono ?_
 rintro e w1 ⟨he1, h1⟩
 rw [← Hh.out] at he1
 subst he1
 have he := h1
 have hs1 := h1.size
 clear h1
 go_upto_region 2 with fail
 have hD := Blk.new w1 33 #[.int .i64 h.number, .int .i64 h.size, .string h.root, .int .i64 h.taken, .string h.takenRoot]
 replace he := he.new (.cells #[.int .i64 h.number, .int .i64 h.size, .string h.root, .int .i64 h.taken, .string h.takenRoot] 33)
 obtain ⟨g2, hg2⟩ : ∃ g2, g2 = w1.heap.size := ⟨_, rfl⟩
 rw [← hg2] at hD hs1
 rw [← hg2]
 clear hg2
 obtain ⟨w2, hw2⟩ : ∃ w2, w2 = w1.alloc (.cells #[.int .i64 h.number, .int .i64 h.size, .string h.root, .int .i64 h.taken, .string h.takenRoot] 33) := ⟨_, rfl⟩
 rw [← hw2] at hD he
 rw [← hw2]
 clear hw2
 obtain ⟨dc, df⟩ := hD.rules
 have hws2 := he.size
 have hgl2 := hD.lt
 have K3 := hU ((Blk.new w2 33 #[.int .i64 h.number, .int .i64 h.size, .string h.root, .int .i64 h.taken, .string h.takenRoot]).ownsRow (xs := h.cells) 1 5 w.heap.size hws2 rfl (by unfold maxLen; omega))
 have He3 := hU (he.new (.cells #[.int .i64 h.number, .int .i64 h.size, .string h.root, .int .i64 h.taken, .string h.takenRoot] 33))
 clear he hD
 go_wp2_with fail
 go_loopw [8, 22] (fun v i wr => ∃ k : Nat, k ≤ l.length ∧ i = .int .i64 k ∧ (∀ x ∈ l.take k, hrImpl n x = true) ∧ wr.ownsRow w.heap.size 33 5 v (k + 1) ((h :: (l.take k).map (hrD n)).flatMap HeadD.cells) ∧ Ext w wr) (fun _ i _ => l.length - (intOf i).toNat)
 case atStart => exact ⟨0, Nat.zero_le _, rfl, by simp, by simpa using K3.out, He3.out⟩
 case round =>
  clear K3 He3 dc df hws2 hgl2
  obtain ⟨k, hk, rfl, hall, hown, he⟩ := hrel
  obtain ⟨V, cv, rfl, hnc⟩ := ownsRow_form hown
  have KO := hU hown; have HA := hU hall
  clear hown hall
  by_cases hlt : k < l.length
  case neg =>
   obtain rfl : k = l.length := by omega
   have E := hU (show l.all (hrImpl n) = true by rw [List.all_eq_true]; have := HA.out; rwa [List.take_length] at this)
   have KO2 := hU (show _ from by have := KO.out; rwa [List.take_length] at this)
   go_wp2_with fail
   go_ret2
   exact ⟨he, Or.inr ⟨E.out, _, rfl, KO2.out⟩⟩
  obtain ⟨x, hx⟩ : ∃ x, l[k]? = some x := ⟨l[k], List.getElem?_eq_getElem hlt⟩
  obtain ⟨b, off, rfl, hb, c0⟩ := texts_cell (HR.out.ext he) hx
  have hxs := Hsz.out x (List.mem_of_getElem? hx)
  have X := hU hx
  clear hx
  go_wp2_with fail
  refine (implReadHead_any n x _ hxs).mono ?_
  rintro e w1 ⟨rfl, h1⟩
  replace he := he.next h1; replace KO := hU (ownsRow_ext KO.out h1)
  clear h1 c0
  cases p1 : hrImpl n x
  · have E := hU (show l.all (hrImpl n) = false by rw [List.all_eq_false]; exact ⟨x, List.mem_of_getElem? X.out, by rw [p1]; simp⟩)
    simp only [hrRes, hrOut, HeadD.cells, Bool.false_eq_true, if_false]
    go_wp2_with fail
    go_ret2
    exact ⟨he.new _, Or.inl ⟨E.out, rfl⟩⟩
  obtain ⟨d, hd⟩ : ∃ d, d = hrD n x := ⟨_, rfl⟩
  rw [← hd]
  have HD := hU hd
  clear hd
  simp only [hrRes, hrOut, HeadD.cells, if_true]
  go_upto_region 7 with fail
  have kd := Blk.new w1 33 #[.int .i64 d.number, .int .i64 d.size, .string d.root, .int .i64 d.taken, .string d.takenRoot]
  have hx1 := Ext.new (Below.refl w1.heap.size w1) (.cells #[.int .i64 d.number, .int .i64 d.size, .string d.root, .int .i64 d.taken, .string d.takenRoot] 33)
  replace he := he.next hx1; replace KO := hU (ownsRow_ext KO.out hx1)
  obtain ⟨q, hq⟩ : ∃ q, q = w1.heap.size := ⟨_, rfl⟩
  rw [← hq] at kd
  rw [← hq]
  have hqw := kd.lt
  have hs1 := hq
  clear hq hx1
  obtain ⟨w2, hw2⟩ : ∃ w2, w2 = w1.alloc (.cells #[.int .i64 d.number, .int .i64 d.size, .string d.root, .int .i64 d.taken, .string d.takenRoot] 33) := ⟨_, rfl⟩
  rw [← hw2] at kd he KO hqw
  have hs2 : w2.heap.size = q + 1 := by rw [hw2, World.size_alloc, hs1]
  rw [← hw2]
  have HS2 := hU hs2
  clear hw2 hs1 hs2
  obtain ⟨rq, fq⟩ := kd.rules
  have hws := he.size
  go_wp2_with (at_builtin; refine wpList_append_moved _ rfl _ _ 28 rfl w.heap.size 33 i0 (.agg #[.int .i64 0, .int .i64 0, .string ⟨#[]⟩, .int .i64 0, .string ⟨#[]⟩]) 5 56 Tryz.underlying28 hi hz0 hz1 hz2 rfl (by decide) _ _ _ rfl (KO.out.alloc _) ⟨w2.heap.size, 0, none⟩ 1 1 (#[.int .i64 d.number, .int .i64 d.size, .string d.root, .int .i64 d.taken, .string d.takenRoot] : Array Value).toList rfl rfl ?c1 ?c2 ?c3 ?c4 ?c5 ?_)
  case c2 => exact ⟨rfl, rfl, rfl, rfl, rfl⟩
  case c3 => unfold maxLen; omega
  case c4 => omega
  case c5 => simp; omega
  intro v' w3 hown' hfrm hmv
  have L0 := hU KO.out.lt
  have he2 : Ext w w3 := hfrm.toExt (he.new _) (fun y hy e => by have := (L0.out _ e).1; omega)
  obtain ⟨hkl, hkd⟩ := List.getElem?_eq_some_iff.1 X.out
  have e2 : (h :: (l.take k).map (hrD n)).flatMap HeadD.cells ++ HeadD.cells d = (h :: (l.take (k + 1)).map (hrD n)).flatMap HeadD.cells := by rw [List.take_succ_eq_append_getElem hkl, hkd, HD.out]; simp
  have O2 := hU (show w3.ownsRow w.heap.size 33 5 v' (k + 1 + 1) ((h :: (l.take (k + 1)).map (hrD n)).flatMap HeadD.cells) by rw [← e2, List.map_take]; exact hown')
  have HA2 := hU (show ∀ y ∈ l.take (k + 1), hrImpl n y = true from fun y hy => by
   rw [List.take_succ_eq_append_getElem hkl, List.mem_append] at hy
   rcases hy with hy | hy
   · exact HA.out y hy
   · obtain rfl := List.mem_singleton.1 hy
     rw [hkd]; exact p1)
  clear hown' hfrm hmv L0 hkd e2 KO he rq fq p1
  go_wp2_with fail
  go_roundw
  case rel => exact ⟨k + 1, by omega, by go_num, HA2.out, O2.out, he2⟩
  case measure => simp [intOf]; omega
end Go.Proofs.YtgeengkdgdjcjaaGreat
