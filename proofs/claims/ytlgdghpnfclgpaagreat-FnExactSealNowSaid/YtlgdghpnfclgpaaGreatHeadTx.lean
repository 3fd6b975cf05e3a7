/-
  FramesWk; HeadRead; ReadHead; TextsP; TakeP; SealP; HeadTx: No condition.
-/
import Derived.Test.YtlgdghpnfclgpaaGreatFramesLaw
import Derived.Test.YtlgdghpnfclgpaaGreatMerkle
import Derived.Test.YtlgdghpnfclgpaaGreatLeafText
import Derived.Test.YtlgdghpnfclgpaaGreatLeaf
import Derived.Test.YtlgdghpnfclgpaaGreatHeadOps
import Derived.Test.YtlgdghpnfclgpaaGreatTypes
import Derived.Test.YtlgdghpnfclgpaaGreatHash
import Derived.Test.YtlgdghpnfclgpaaGreatBunch
namespace Go.Proofs.YtlgdghpnfclgpaaGreat
set_option maxHeartbeats 4000000
set_option maxRecDepth 100000
set_option linter.unusedSimpArgs false
open Go.RowKit
set_option linter.unusedVariables false
theorem implFrame_any (T : ByteArray) (w : World) (hT : T.size ≤ maxLen) : Calls Tryz.prog 211 #[.string T] w fun e w' => e = .returned (.tuple #[.string (frameOut T), .bool (fits1 T)]) ∧ Ext w w' := by
 have HT := hU hT
 unfold maxLen at hT
 unfold fits1
 cases b1 : inR T.size 1 1000
 · have E := hU (show frameOut T = ⟨#[]⟩ by simp [frameOut, b1])
   go_enter Tryz.func211, Tryz.ntmps211
   go_wp2_with (go_at_call 135; refine (inRange_any _ _ _ _).mono ?_; rintro e w' ⟨rfl, rfl⟩)
   go_ret2
   exact ⟨by rw [E.out]; rfl, Below.refl _ _⟩
 · have E := hU (show frameOut T = frameB T by simp [frameOut, b1])
   obtain ⟨h0, h1⟩ := inR_true b1
   have d4 := dig4_size b1
   have l2 := lowB_size T.size 2
   have n1 : ¬ 9223372036854775807 < (lowB T.size 2).size + (digest 4 4 T).size := by omega
   have n2 : ¬ 9223372036854775807 < (lowB T.size 2).size + (digest 4 4 T).size + T.size := by omega
   have he := Below.refl w.heap.size w
   go_enter Tryz.func211, Tryz.ntmps211
   go_wp2_with (go_at_call 135; refine (inRange_any _ _ _ _).mono ?_; rintro e w' ⟨rfl, rfl⟩)
   refine (Digest_any 4 4 T _ HT.out).mono ?_
   rintro e w1 ⟨rfl, hx⟩
   replace he : Ext w w1 := Ext.next he hx
   go_wp2_with fail
   refine (pair_any T.size _ (by omega) (by omega)).mono ?_
   rintro e w2 ⟨rfl, hx⟩
   rw [← lowB_two]
   replace he : Ext w w2 := he.next hx
   go_wp2_with fail
   go_ret2
   exact ⟨by rw [E.out]; rfl, he⟩
theorem frameOut_fits {T : ByteArray} (h : fits1 T = true) : frameOut T = frameB T := by
 unfold frameOut; unfold fits1 at h; rw [if_pos h]
structure FInv (l : List ByteArray) (k : Nat) : Prop where
 le : k ≤ l.length
 fits : ∀ T ∈ l.take k, fits1 T = true
 small : (framesT (l.take k)).size ≤ 300000
theorem FInv.start (l : List ByteArray) : FInv l 0 := ⟨Nat.zero_le _, by simp, by simp [framesT]; exact Nat.zero_le _⟩
theorem FInv.next {l : List ByteArray} {k : Nat} {T : ByteArray} (h : FInv l k) (hT : l[k]? = some T) (hf : fits1 T = true) (hs : (framesT (l.take k)).size + (frameB T).size ≤ 300000) : FInv l (k + 1) := by
 obtain ⟨hk, he⟩ := List.getElem?_eq_some_iff.1 hT
 refine ⟨hk, fun x hx => ?_, by rw [framesT_next hT, ByteArray.size_append]; exact hs⟩
 rw [List.take_succ_eq_append_getElem hk] at hx
 rcases List.mem_append.1 hx with hx | hx
 · exact h.fits x hx
 · obtain rfl : x = l[k] := by simpa using hx
   rw [he]; exact hf
theorem FInv.done {l : List ByteArray} (h : FInv l l.length) (hl : l.length ≤ 600) : framesOk l = true := by
 obtain ⟨_, h1, h2⟩ := h
 rw [List.take_length] at h1 h2
 exact framesOk_yes hl h1 h2
theorem framesOut_no {l : List ByteArray} (h : framesOk l = false) : framesOut l = ⟨#[]⟩ := by simp [framesOut, h]
theorem framesOut_yes {l : List ByteArray} (h : framesOk l = true) : framesOut l = framesT l := by simp [framesOut, h]
theorem framesOk_long {l : List ByteArray} (h : ¬ l.length ≤ 600) : framesOk l = false := by simp [framesOk, h]
theorem sone_at {l : List ByteArray} {w : World} {b off : Nat} {k : Nat} {d : ByteArray} (hc : ∀ j u, (l.flatMap sone)[k * 1 + j]? = some u → w.cell? ⟨b, off + k * 1 + j, none⟩ = some u) (hd : l[k]? = some d) :
 w.cell? ⟨b, off + k, none⟩ = some (.string d) := by
 have := hc 0 _ (flat_at sone 1 sone_length l k 0 d hd (by omega))
 rwa [Nat.add_zero, Nat.mul_one] at this
theorem specFrames_any (A : Option Addr) (c : Nat) (l : List ByteArray) (w : World) (hr : ReadsL w w.heap.size sone 1 A l) (hl : l.length ≤ 1048576) (hs : ∀ T ∈ l, T.size ≤ maxLen) :
 Calls Tryz.prog 236 #[.slice A l.length c] w fun e w' => e = .returned (.tuple #[.string (framesOut l), .bool (framesOk l)]) ∧ Ext w w' := by
 by_cases h6 : l.length ≤ 600
 case neg =>
  have E := hU (framesOk_long h6)
  go_enter Tryz.func236, Tryz.ntmps236
  go_wp2_with fail
  go_ret2
  exact ⟨by rw [framesOut_no E.out, E.out]; rfl, Below.refl _ _⟩
 have HS := hU hs; clear hs
 have HR := hU hr; clear hr
 obtain ⟨i0, hinf, hz0, hz1, hz2⟩ := info_parts info_u8
 have H0 := hU (ownsRow_empty w 5 1)
 have He := hU (Ext.new (Below.refl w.heap.size w) (.cells #[] 5))
 go_enter Tryz.func236, Tryz.ntmps236
 go_wp2_with fail
 obtain ⟨B, hB⟩ : ∃ B, B = w.heap.size := ⟨_, rfl⟩
 rw [← hB] at H0
 rw [← hB]
 have Hb : w.heap.size ≤ B := by omega
 have HB := hU hB
 clear hB
 go_loopw [4, 5] (fun v x wr => ∃ k : Nat, FInv l k ∧ x = .int .i64 k ∧ OwnB B wr v (framesT (l.take k)).size (intsOf (framesT (l.take k))) ∧ (k = 0 → ∃ a c, v = .slice (some a) 0 c) ∧ Ext w wr) (fun _ x _ => l.length - (intOf x).toNat)
 case atStart => exact ⟨0, FInv.start l, rfl, H0.out, fun _ => ⟨_, _, rfl⟩, He.out⟩
 case round =>
  clear H0 He
  obtain ⟨k, hI, rfl, hown, hz, he⟩ := hrel
  obtain ⟨A', c', rfl, hnc⟩ := ownsRow_form hown
  have KO := hU hown
  have HI := hU hI
  have HZ := hU hz
  have hk := hI.le
  have hsm := hI.small
  clear hown hI hz
  by_cases hlt : k < l.length
  case neg =>
   obtain rfl : k = l.length := by omega
   have E := hU (HI.out.done h6)
   have hown := KO.out
   have hconv : (convert 166 9 (.slice A' (framesT (l.take l.length)).size c')).run Tryz.prog wr = .ok (.string (framesT l)) wr := by
    rw [List.take_length] at hown ⊢
    rcases Nat.eq_zero_or_pos l.length with h0 | h0
    · obtain ⟨a, c2, ha⟩ := HZ.out h0
      obtain rfl := List.eq_nil_of_length_eq_zero h0
      obtain ⟨rfl, _, rfl⟩ : A' = some a ∧ (framesT (List.take ([] : List ByteArray).length [])).size = 0 ∧ c' = c2 := by simpa using ha
      exact string0 _ _ _
    · have hpos : 0 < (framesT l).size := by
       cases l with
       | nil => simp at h0
       | cons T l =>
         have h1 := frameB_size ((framesOk_all E.out).2.1 T (by simp))
         rw [framesT, ByteArray.size_append]; omega
      have := own_string (n := (framesT l).size) (by rw [intsOf_len]) hown hpos (intsOf_rng _)
      rwa [ofInts_intsOf] at this
   have hdk : decide ((l.length : Int) < (l.length : Int)) = false := by simp
   have hconv2 := hconv
   rw [List.take_length] at hconv2
   clear KO hown
   go_wp2_with fail
   go_ret2
   exact ⟨by rw [framesOut_yes E.out, E.out]; rfl, he⟩
  have hdk : decide ((k : Int) < (l.length : Int)) = true := by rw [decide_eq_true_eq]; omega
  obtain ⟨g, off, rfl, hg, hc⟩ := (HR.out.ext he).at_ (k := k) hlt
  obtain ⟨T, hT⟩ : ∃ T, T = l[k] := ⟨_, rfl⟩
  have hTl : l[k]? = some T := by rw [hT]; exact List.getElem?_eq_getElem hlt
  have c0 := sone_at hc hTl
  have HTl := hU hTl
  have HTs := hU (HS.out T (List.mem_of_getElem? hTl))
  clear hc hT hTl
  go_wp2_with fail
  refine (specFrame_any T _ HTs.out).mono ?_
  rintro e w1 ⟨rfl, e1⟩
  have he1 := he.next e1
  have KO1 := hU (ownsRow_ext KO.out e1)
  clear c0 KO he e1
  cases hf : inR T.size 1 1000
  · have E := hU (framesOk_no1 HTl.out (show fits1 T = false from hf))
    go_wp2_with fail
    go_ret2
    exact ⟨by rw [framesOut_no E.out, E.out]; rfl, he1⟩
  rw [frameOut_fits (show fits1 T = true from hf)]
  have hfs := frameB_size (show fits1 T = true from hf)
  obtain ⟨t0, t1⟩ := fits1_le (show fits1 T = true from hf)
  have Hsn := hU (framesT_next HTl.out)
  by_cases hfit : (framesT (l.take k)).size + (frameB T).size ≤ 300000
  case neg =>
   have E := hU (framesOk_no2 HTl.out (by omega))
   have d3 : decide (300000 - ((framesT (l.take k)).size : Int) < ((frameB T).size : Int)) = true := by rw [decide_eq_true_eq]; omega
   go_wp2_with fail
   go_ret2
   exact ⟨by rw [framesOut_no E.out, E.out]; rfl, he1⟩
  have d3 : decide (300000 - ((framesT (l.take k)).size : Int) < ((frameB T).size : Int)) = false := by rw [decide_eq_false_iff_not]; omega
  have HN := hU (HI.out.next HTl.out (show fits1 T = true from hf) hfit)
  obtain ⟨cap, w2, hrun, e2, hcell⟩ := to_bytes (P := Tryz.prog) (frameB T) Tryz.underlying9 Tryz.underlying166 Tryz.underlying5 w1
  have he2 := he1.next e2
  have KO2 := hU (ownsRow_ext KO1.out e2)
  obtain ⟨F, hF⟩ : ∃ F, F = frameB T := ⟨_, rfl⟩
  obtain ⟨G, hG⟩ : ∃ G, G = framesT (l.take k) := ⟨_, rfl⟩
  have Hn : Hid (bvals (intsOf G) ++ bvals (intsOf F) = bvals (intsOf (framesT (l.take (k + 1)))) ∧ (framesT (l.take (k + 1))).size = G.size + F.size) := hU (by rw [hF, hG, ← bvals_append, ← intsOf_append, Hsn.out, ByteArray.size_append]; exact ⟨rfl, rfl⟩)
  rw [← hF] at hrun hcell hfs hfit d3
  have hFs : F.size ≤ 1006 := by omega
  rw [← hG] at KO2 hsm hfit d3
  rw [← hF]
  try rw [← hG]
  have hnews : Hid (∀ j u, (bvals (intsOf F))[j]? = some u → w2.cell? ((⟨w1.heap.size, 0, none⟩ : Addr).add j) = some u) := hU (by
   intro j u hu
   have hj : j < F.size := by
    have := (List.getElem?_eq_some_iff.1 hu).1
    rwa [bvals_len, intsOf_len] at this
   rw [intsOf_get hj] at hu
   rw [add_mk, Nat.zero_add, hcell j hj, hu])
  have hB2 : B ≤ w2.heap.size := by have := he2.size; have := HB.out; omega
  clear hF hG he1 KO1 e2 hcell Hsn hfs
  go_wp2_with (at_builtin; refine wpList_append_own _ rfl _ _ 166 rfl B 5 i0 (.int .u8 0) 1 1 Tryz.underlying166 hinf hz0 hz1 hz2 rfl (by decide) _ _ _ rfl KO2.out ⟨w1.heap.size, 0, none⟩ F.size cap (bvals (intsOf F)) rfl ?c0 ?c1 ?c2 ?c3 ?c4 ?c5 ?_)
  case c0 => rw [bvals_len, intsOf_len, Nat.mul_one]
  case c1 => exact hnews.out
  case c2 => exact bvals_one _
  case c3 => unfold maxLen; omega
  case c4 => omega
  case c5 => exact hB2
  intro v' w3 hown' hgrow _
  have he3 := Ext.ownGrown he2 KO2.out hgrow Hb
  rw [Hn.out.1] at hown'
  have KO' := hU (show OwnB B w3 v' (framesT (l.take (k + 1))).size (intsOf (framesT (l.take (k + 1)))) from by rw [Hn.out.2]; exact hown')
  clear hown' hgrow KO2 he2 hnews hrun
  go_wp2_with fail
  go_roundw
  case rel => exact ⟨k + 1, HN.out, by go_num, KO'.out, fun h => absurd h (by omega), he3⟩
  case measure => simp [intOf]; omega
def rh1 (T : ByteArray) (r : Rd) : Rd := rdNext T r 2
def rh2 (T : ByteArray) (r : Rd) : Rd := rdNext T (rh1 T r) 2
def rh3 (T : ByteArray) (r : Rd) (m : Nat) : Rd := rdNext T (rh2 T r) m
def rh4 (T : ByteArray) (r : Rd) (m : Nat) : Rd := rdNext T (rh3 T r m) 2
def rh5 (T : ByteArray) (r : Rd) (m : Nat) : Rd := rdNext T (rh4 T r m) m
def rhD (T : ByteArray) (r : Rd) (m : Nat) : HeadD := ⟨(beNum (rdTake T r 2) : Int), (beNum (rdTake T (rh1 T r) 2) : Int), rdTake T (rh2 T r) m, (beNum (rdTake T (rh3 T r m) 2) : Int), rdTake T (rh4 T r m) m⟩
set_option maxHeartbeats 2000000
def headT (h : HeadD) : ByteArray := lowB h.number.toNat 2 ++ lowB h.size.toNat 2 ++ h.root ++ lowB h.taken.toNat 2 ++ h.takenRoot
def headText (n : Int) (h : HeadD) : ByteArray := if headOk n h then headT h else ⟨#[]⟩
theorem headOk_bounds {n : Int} {h : HeadD} (hk : headOk n h = true) : 1 ≤ n ∧ n ≤ 32 ∧ 0 ≤ h.number ∧ h.number ≤ 399 ∧ 0 ≤ h.size ∧ h.size ≤ 512 ∧ (h.root.size : Int) = n ∧ 0 ≤ h.taken ∧ h.taken ≤ 512 ∧ (h.takenRoot.size : Int) = n := by
 simp only [headOk, rootB, Bool.and_eq_true, beq_iff_eq] at hk
 obtain ⟨⟨⟨h1, h2⟩, ⟨h3, h4⟩, _⟩, ⟨h5, h6⟩, _⟩ := hk
 have := inR_true h1
 have := inR_true h2
 have := inR_true h3
 have := inR_true h5
 omega
theorem specHeadText_any (n : Int) (d : HeadD) (w : World) : Calls Tryz.prog 131 #[.int .i64 n, .agg #[.int .i64 d.number, .int .i64 d.size, .string d.root, .int .i64 d.taken, .string d.takenRoot]] w fun e w' => e = .returned (.tuple #[.string (headText n d), .bool (headOk n d)]) ∧ Ext w w' := by
 have K0 := hU (Blk.new w 55 #[.int .i64 d.number, .int .i64 d.size, .string d.root, .int .i64 d.taken, .string d.takenRoot])
 have He := hU (Ext.new (Below.refl w.heap.size w) (.cells #[.int .i64 d.number, .int .i64 d.size, .string d.root, .int .i64 d.taken, .string d.takenRoot] 55))
 cases b : headOk n d
 · have Ht := hU (show headText n d = ⟨#[]⟩ by simp [headText, b])
   go_enter Tryz.func131, Tryz.ntmps131
   go_wp2_with fail
   refine (specHeadOk_any n d _).mono ?_
   rintro e w1 ⟨rfl, h1⟩
   have he := He.out.next h1
   go_wp2_with fail
   go_ret2
   exact ⟨by rw [Ht.out]; rfl, he⟩
 · have Ht := hU (show headText n d = lowB d.number.toNat 2 ++ lowB d.size.toNat 2 ++ d.root ++ lowB d.taken.toNat 2 ++ d.takenRoot by simp [headText, b, headT])
   obtain ⟨z0, z1, z2, z3, z4, z5, z6, z7, z8, z9⟩ := headOk_bounds b
   have y1 : (lowB d.number.toNat 2).size ≤ 2 := by rw [lowB_size]; exact Nat.le_refl _
   have y2 : (lowB d.size.toNat 2).size ≤ 2 := by rw [lowB_size]; exact Nat.le_refl _
   have y3 : (lowB d.taken.toNat 2).size ≤ 2 := by rw [lowB_size]; exact Nat.le_refl _
   have n1 : ¬ 9223372036854775807 < (lowB d.number.toNat 2).size + (lowB d.size.toNat 2).size := by omega
   have n2 : ¬ 9223372036854775807 < (lowB d.number.toNat 2).size + (lowB d.size.toNat 2).size + d.root.size := by omega
   have n3 : ¬ 9223372036854775807 < (lowB d.number.toNat 2).size + (lowB d.size.toNat 2).size + d.root.size + (lowB d.taken.toNat 2).size := by omega
   have n4 : ¬ 9223372036854775807 < (lowB d.number.toNat 2).size + (lowB d.size.toNat 2).size + d.root.size + (lowB d.taken.toNat 2).size + d.takenRoot.size := by omega
   clear z0 z1 z6 z9
   go_enter Tryz.func131, Tryz.ntmps131
   go_wp2_with fail
   obtain ⟨g, hg⟩ : ∃ g, g = w.heap.size := ⟨_, rfl⟩
   rw [← hg] at K0
   rw [← hg]
   clear hg
   refine (specHeadOk_any n d _).mono ?_
   rintro e w1 ⟨rfl, h1⟩
   have he := He.out.next h1
   have hB := K0.out.ext h1
   clear h1 K0 He
   have c0 := hB.cell 0
   have c1 := hB.cell 1
   have c2 := hB.cell 2
   have c3 := hB.cell 3
   have c4 := hB.cell 4
   go_wp2_with fail
   go_region_held3 (fun w' => w'.cell? ⟨g, 0, none⟩ = some (.int .i64 d.number) ∧ w'.cell? ⟨g, 1, none⟩ = some (.int .i64 d.size) ∧ w'.cell? ⟨g, 2, none⟩ = some (.string d.root) ∧ w'.cell? ⟨g, 3, none⟩ = some (.int .i64 d.taken) ∧ w'.cell? ⟨g, 4, none⟩ = some (.string d.takenRoot) ∧ Blk w' g 55 #[.int .i64 d.number, .int .i64 d.size, .string d.root, .int .i64 d.taken, .string d.takenRoot] ∧ Ext w w')
    (first
     | exact ⟨c0, c1, c2, c3, c4, hB.drew, he.drew⟩
     | (go_split_ands; refine ⟨?_, ?_, ?_, ?_, ?_, ?_, ?_⟩ <;> assumption)
     | (go_split_ands; have hB' := Blk.ext (by assumption) h1; exact ⟨hB'.cell 0, hB'.cell 1, hB'.cell 2, hB'.cell 3, hB'.cell 4, hB', Ext.next (by assumption) h1⟩))
    (first
     | (go_at_call 183; refine (l03NumberI_any _ 2 _ (by omega) (by omega) (by decide)).mono ?_; rintro e w' ⟨rfl, h1⟩))
   all_goals
    go_wp2_with fail
    go_ret2
    refine ⟨by rw [Ht.out]; rfl, ?_⟩
    go_split_ands
    assumption
def rh0 : Rd := ⟨0, false⟩
def hrD (n : Int) (T : ByteArray) : HeadD := rhD T rh0 n.toNat
def hrImpl (n : Int) (T : ByteArray) : Bool := inR n 1 32 && (rdDone T (rh5 T rh0 n.toNat) && headOk n (hrD n T))
def HeadD.zero : HeadD := ⟨0, 0, ⟨#[]⟩, 0, ⟨#[]⟩⟩
def textsE (b : BrokerD) : List ByteArray := b.log.entries.map leafText
def textsH (b : BrokerD) : List ByteArray := (b.heads.drop 1).map (headText b.width)
def textsR (b : BrokerD) : List ByteArray := b.receipts.map receiptText
def fileT (b : BrokerD) (f : Nat) : List ByteArray := (if f = 0 then textsE b else []) ++ (if f = 1 then textsH b else []) ++ (if f = 2 then textsR b else [])
theorem fileT_0 (b : BrokerD) : fileT b 0 = textsE b := by simp [fileT]
theorem fileT_1 (b : BrokerD) : fileT b 1 = textsH b := by simp [fileT]
theorem fileT_2 (b : BrokerD) : fileT b 2 = textsR b := by simp [fileT]
def offT : List ByteArray → Nat
 | [] => 0
 | t :: r => (6 + t.size) + offT r
theorem offT_append : ∀ (a b : List ByteArray), offT (a ++ b) = offT a + offT b
 | [], b => by simp [offT]
 | t :: r, b => by simp only [List.cons_append, offT, offT_append r b]; omega
theorem offT_le {m : Nat} : ∀ {l : List ByteArray}, (∀ t ∈ l, t.size ≤ m) → offT l ≤ l.length * (m + 6)
 | [], _ => by simp [offT]
 | t :: r, h => by
   have h1 := h t (by simp)
   have h2 := offT_le (l := r) (m := m) (fun x hx => h x (by simp [hx]))
   simp only [offT, List.length_cons, Nat.succ_mul]
   omega
theorem offT_take {l : List ByteArray} {k : Nat} {t : ByteArray} (h : l[k]? = some t) : offT (l.take (k + 1)) = offT (l.take k) + (6 + t.size) := by
 obtain ⟨h1, h2⟩ := List.getElem?_eq_some_iff.1 h
 rw [List.take_succ_eq_append_getElem h1, offT_append, h2]
 simp [offT]
theorem framesT_off : ∀ {l : List ByteArray}, (∀ t ∈ l, fits1 t = true) → (framesT l).size = offT l
 | [], _ => rfl
 | t :: r, h => by
   have h1 := frameB_size (h t (by simp))
   have h2 := framesT_off (l := r) (fun x hx => h x (by simp [hx]))
   simp only [framesT, ByteArray.size_append, offT, h1, h2]
   omega
theorem leafText_fits {d : EntryD} (h : entryOk d = true) : 1 ≤ (leafText d).size ∧ (leafText d).size ≤ 500 := by
 have := entryOk_bounds h
 unfold leafText
 rw [if_pos h, leafT]
 have e : (lowB d.time.toNat 4).size = 4 := rfl
 have e1 : (⟨#[69]⟩ : ByteArray).size = 1 := rfl
 have o1 : ∀ k : Int, (octB k).size = 1 := fun _ => rfl
 simp only [ByteArray.size_append, o1, e, e1]
 omega
theorem receiptText_fits {d : ReceiptD} (h : receiptOk d = true) : 1 ≤ (receiptText d).size ∧ (receiptText d).size ≤ 500 := by
 have h' := h
 simp only [receiptOk, Bool.and_eq_true] at h'
 have s1 := nameOk_size h'.1.1
 have s2 := nameOk_size h'.1.2
 unfold receiptText
 rw [if_pos h, receiptT]
 have e1 : (⟨#[82]⟩ : ByteArray).size = 1 := rfl
 have o1 : ∀ k : Int, (octB k).size = 1 := fun _ => rfl
 simp only [ByteArray.size_append, o1, e1]
 omega
theorem headText_fits {n : Int} {d : HeadD} (h : headOk n d = true) : 1 ≤ (headText n d).size ∧ (headText n d).size ≤ 500 := by
 have := headOk_bounds h
 unfold headText
 rw [if_pos h, headT]
 simp only [ByteArray.size_append, lowB_size]
 omega
theorem fits_of {t : ByteArray} (h : 1 ≤ t.size ∧ t.size ≤ 500) : fits1 t = true := by
 unfold fits1 inR
 simp only [Bool.and_eq_true, decide_eq_true_eq]
 omega
theorem frames_ok {l : List ByteArray} (hl : l.length ≤ 512) (h : ∀ t ∈ l, 1 ≤ t.size ∧ t.size ≤ 500) : framesOk l = true ∧ (framesOut l).size = offT l := by
 have h1 : ∀ t ∈ l, fits1 t = true := fun t ht => fits_of (h t ht)
 have h2 := framesT_off h1
 have h3 := offT_le (l := l) (m := 500) (fun t ht => (h t ht).2)
 have h4 : framesOk l = true := framesOk_yes (by omega) h1 (by rw [h2]; omega)
 exact ⟨h4, by rw [framesOut_yes h4, h2]⟩
theorem file_fits {b : BrokerD} (hE : ∀ e ∈ b.log.entries, entryOk e = true) (hR : ∀ r ∈ b.receipts, receiptOk r = true) (hH : ∀ h ∈ b.heads, headOk b.width h = true) (f : Nat) : ∀ t ∈ fileT b f, 1 ≤ t.size ∧ t.size ≤ 500 := by
 intro t ht
 unfold fileT at ht
 rw [List.mem_append, List.mem_append] at ht
 rcases ht with (ht | ht) | ht
 · split at ht
   · obtain ⟨e, he, rfl⟩ := List.mem_map.1 ht; exact leafText_fits (hE e he)
   · simp at ht
 · split at ht
   · obtain ⟨e, he, rfl⟩ := List.mem_map.1 ht; exact headText_fits (hH e (List.mem_of_mem_drop he))
   · simp at ht
 · split at ht
   · obtain ⟨e, he, rfl⟩ := List.mem_map.1 ht; exact receiptText_fits (hR e he)
   · simp at ht
theorem file_len {b : BrokerD} (h0 : b.log.entries.length ≤ 512) (h1 : b.receipts.length ≤ 512) (h2 : b.heads.length ≤ 400) (f : Nat) : (fileT b f).length ≤ 512 := by
 unfold fileT
 by_cases f0 : f = 0
 · subst f0; simp [textsE]; omega
 by_cases f1 : f = 1
 · subst f1; simp [textsH]; omega
 by_cases f2 : f = 2
 · subst f2; simp [textsR]; omega
 simp [f0, f1, f2]
theorem broker_parts {b : BrokerD} (h : brokerB b = true) : inR b.width 1 32 = true ∧ b.log.entries.length ≤ 512 ∧ (∀ e ∈ b.log.entries, entryOk e = true) ∧ b.receipts.length ≤ 512 ∧ (∀ r ∈ b.receipts, receiptOk r = true) ∧ 0 < b.heads.length ∧ b.heads.length ≤ 400 ∧ (∀ h ∈ b.heads, headOk b.width h = true) := by
 rw [brokerB, Bool.and_eq_true] at h
 have p := h.1
 simp only [brkParts, Bool.and_eq_true, decide_eq_true_eq] at p
 obtain ⟨⟨⟨⟨⟨⟨⟨hw, hlog⟩, hrec⟩, h0⟩, hh⟩, hz0⟩, hsl⟩, hrd⟩ := p
 have l3 := headsOk_all hh
 refine ⟨hw, (logOk_all hlog).1, (logOk_all hlog).2, (recsOk_all hrec).1, (recsOk_all hrec).2, h0, l3.2.1, fun x hx => ?_⟩
 obtain ⟨j, hj, e⟩ := List.mem_iff_getElem.1 hx
 exact (headAt_ok (List.getElem?_eq_some_iff.2 ⟨hj, e⟩) (l3.2.2 j hj)).1
def writeW (b : BrokerD) (f : Nat) (t : ByteArray) : WriteD := ⟨(f : Int), ((offT (fileT b f) : Nat) : Int), frameOut t⟩
def tkCode (b : BrokerD) (r : ReceiptD) : Nat :=
 if receiptOk r then (if inR (idxB (ofTI r.topic r.index) b.log.entries) 0 ((lastH b.heads).size - 1) then (if 0 ≤ idxB (fun x => x.eqb r) b.receipts then 4 else if 512 ≤ b.receipts.length then 5 else 0) else 3) else 2
def tkB (b : BrokerD) (r : ReceiptD) : BrokerD := ⟨b.width, b.log, b.receipts ++ [r], b.heads, b.sealed⟩
theorem tk2 {b : BrokerD} {r : ReceiptD} (h : receiptOk r = false) : tkCode b r = 2 := by simp [tkCode, h]
def slL (b : BrokerD) : List ByteArray := leavesH b.width b.log.entries
def slT (b : BrokerD) : List ByteArray := takenH b.width b.receipts
def slHead (b : BrokerD) : HeadD := ⟨(lastH b.heads).number + 1, ((slL b).length : Nat), treeR b.width (slL b), ((slT b).length : Nat), treeR b.width (slT b)⟩
def slSeal (b : BrokerD) : SealD := ⟨rangeOf b.width (slL b), rangeOf b.width (slT b), slHead b⟩
def slMid (b : BrokerD) : BrokerD := ⟨b.width, b.log, b.receipts, b.heads, slSeal b⟩
def slB (b : BrokerD) : BrokerD := ⟨b.width, b.log, b.receipts, b.heads ++ [slHead b], slSeal b⟩
def slCode (b : BrokerD) : Nat := if (b.log.entries.length : Int) - (lastH b.heads).size = 0 ∧ (b.receipts.length : Int) - (lastH b.heads).taken = 0 then 2 else if 400 ≤ b.heads.length then 3 else 0
theorem sl2 {b : BrokerD} (h1 : (b.log.entries.length : Int) - (lastH b.heads).size = 0) (h2 : (b.receipts.length : Int) - (lastH b.heads).taken = 0) : slCode b = 2 := by rw [slCode, if_pos ⟨h1, h2⟩]
theorem sl3 {b : BrokerD} (h : ¬ ((b.log.entries.length : Int) - (lastH b.heads).size = 0 ∧ (b.receipts.length : Int) - (lastH b.heads).taken = 0)) (h2 : 400 ≤ b.heads.length) : slCode b = 3 := by rw [slCode, if_neg h, if_pos h2]
theorem sl0 {b : BrokerD} (h : ¬ ((b.log.entries.length : Int) - (lastH b.heads).size = 0 ∧ (b.receipts.length : Int) - (lastH b.heads).taken = 0)) (h2 : ¬ 400 ≤ b.heads.length) : slCode b = 0 := by rw [slCode, if_neg h, if_neg h2]
theorem slMid_write (b : BrokerD) (f : Nat) (t : ByteArray) : writeW (slMid b) f t = writeW b f t := rfl
structure SlF_ (b : BrokerD) (n1 n2 : Nat) : Prop where
 s : (lastH b.heads).size = (n1 : Int)
 t : (lastH b.heads).taken = (n2 : Int)
 e : n1 ≤ b.log.entries.length
 r : n2 ≤ b.receipts.length
 w : inR b.width 1 32 = true
 z : b.sealed = ⟨⟨(n1 : Int), (peaksOf (ndB b.width) ((slL b).take n1)).reverse⟩, ⟨(n2 : Int), (peaksOf (ndB b.width) ((slT b).take n2)).reverse⟩, lastH b.heads⟩
 n : (lastH b.heads).number = ((b.heads.length - 1 : Nat) : Int)
 l : ∀ x ∈ slL b, WdT b.width x
 m : ∀ x ∈ slT b, WdT b.width x
 h0 : 0 < b.heads.length
 le : b.log.entries.length ≤ 512
 lr : b.receipts.length ≤ 512
 lh : b.heads.length ≤ 400
theorem sl_facts {b : BrokerD} (h : brokerB b = true) : ∃ n1 n2, SlF_ b n1 n2 := by
 obtain ⟨hw, he, he2, hr, hr2, h0, hh, hok⟩ := broker_parts h
 have h' := h
 rw [brokerB, Bool.and_eq_true] at h'
 have p := h'.1
 simp only [brkParts, Bool.and_eq_true, decide_eq_true_eq] at p
 obtain ⟨⟨⟨⟨⟨⟨⟨_, hlog⟩, hrec⟩, _⟩, hhs⟩, hz0⟩, hsl⟩, hrd⟩ := p
 have hl := headOk_in (hok _ (List.mem_of_getElem? (last_at h0)))
 have h1 := allTo_iff.1 hsl (b.heads.length - 1) (by omega)
 rw [sealAt, last_at h0] at h1
 simp only [Bool.and_eq_true, decide_eq_true_eq] at h1
 have e1 := h1.1.1.1; have e2 := h1.1.1.2
 rw [leavesH, List.length_map] at e1
 rw [takenH, List.length_map] at e2
 have hs := sameSealB_iff.1 h'.2
 refine ⟨(lastH b.heads).size.toNat, (lastH b.heads).taken.toNat, ⟨by omega, by omega, by omega, by omega, hw, ?_, ?_, fun x hx => leavesH_size hw hlog x hx, fun x hx => takenH_size hw hrec x hx, h0, he, hr, hh⟩⟩
 · rw [← hs]
   have k1 : ((leavesH b.width b.log.entries).take (lastH b.heads).size.toNat).length = (lastH b.heads).size.toNat := by rw [List.length_take, leavesH, List.length_map]; omega
   have k2 : ((takenH b.width b.receipts).take (lastH b.heads).taken.toNat).length = (lastH b.heads).taken.toNat := by rw [List.length_take, takenH, List.length_map]; omega
   simp only [sealOfH, rangeOf, slL, slT, k1, k2]
 · exact (headAt_ok (last_at h0) ((headsOk_all hhs).2.2 _ (by omega))).2
theorem sl_grow {α : Type} (nd : α → α → α) (L : List α) {n : Nat} (h : n ≤ L.length) : growL nd n (peaksOf nd (L.take n)) (L.drop n) = peaksOf nd L := by
 have h1 := peaks_take (nd := nd) L (a := n) (b := L.length) h (Nat.le_refl _)
 rw [List.take_of_length_le (l := L.drop n) (by rw [List.length_drop]; omega), List.take_of_length_le (l := L) (Nat.le_refl _)] at h1
 exact h1
theorem implHeadText_any (n : Int) (d : HeadD) (w : World) : Calls Tryz.prog 165 #[.int .i64 n, .agg #[.int .i64 d.number, .int .i64 d.size, .string d.root, .int .i64 d.taken, .string d.takenRoot]] w fun e w' => e = .returned (.tuple #[.string (headText n d), .bool (headOk n d)]) ∧ Ext w w' := by
 have B0 := Blk.new w 55 #[.int .i64 d.number, .int .i64 d.size, .string d.root, .int .i64 d.taken, .string d.takenRoot]
 have he := Ext.new (Below.refl w.heap.size w) (.cells #[.int .i64 d.number, .int .i64 d.size, .string d.root, .int .i64 d.taken, .string d.takenRoot] 55)
 cases b : headOk n d
 · have Ht := hU (show headText n d = ⟨#[]⟩ by simp [headText, b])
   have He := hU he
   clear B0 he
   go_enter Tryz.func165, Tryz.ntmps165
   go_wp2_with fail
   refine (implHeadOk_any n d _).mono ?_
   rintro e w1 ⟨rfl, h1⟩
   have he := He.out.next h1
   rw [b]
   go_wp2_with fail
   go_ret2
   exact ⟨by rw [Ht.out]; rfl, he⟩
 · obtain ⟨z0, z1, z2, z3, z4, z5, z6, z7, z8, z9⟩ := headOk_bounds b
   obtain ⟨p1, hp1⟩ : ∃ p1, p1 = octB (d.number / 256) ++ octB d.number := ⟨_, rfl⟩
   obtain ⟨p2, hp2⟩ : ∃ p2, p2 = octB (d.size / 256) ++ octB d.size := ⟨_, rfl⟩
   obtain ⟨p3, hp3⟩ : ∃ p3, p3 = octB (d.taken / 256) ++ octB d.taken := ⟨_, rfl⟩
   have C1 := hU (show ∀ W, Calls Tryz.prog 209 #[.int .i64 d.number] W fun e w' => e = .returned (.string p1) ∧ Ext W w' from fun W => by rw [hp1]; exact pair_any _ W (by omega) (by omega))
   have C2 := hU (show ∀ W, Calls Tryz.prog 209 #[.int .i64 d.size] W fun e w' => e = .returned (.string p2) ∧ Ext W w' from fun W => by rw [hp2]; exact pair_any _ W (by omega) (by omega))
   have C3 := hU (show ∀ W, Calls Tryz.prog 209 #[.int .i64 d.taken] W fun e w' => e = .returned (.string p3) ∧ Ext W w' from fun W => by rw [hp3]; exact pair_any _ W (by omega) (by omega))
   have low : ∀ k : Int, 0 ≤ k → lowB k.toNat 2 = octB (k / 256) ++ octB k := fun k hk => by
    rw [lowB_two, Int.toNat_of_nonneg hk]
   have Ht := hU (show headText n d = p1 ++ p2 ++ d.root ++ p3 ++ d.takenRoot by rw [headText, if_pos b, headT, low _ z2, low _ z4, low _ z7, hp1, hp2, hp3])
   have y1 : p1.size = 2 := by rw [hp1]; rfl
   have y2 : p2.size = 2 := by rw [hp2]; rfl
   have y3 : p3.size = 2 := by rw [hp3]; rfl
   have n1 : ¬ 9223372036854775807 < p1.size + p2.size := by omega
   have n2 : ¬ 9223372036854775807 < p1.size + p2.size + d.root.size := by omega
   have n3 : ¬ 9223372036854775807 < p1.size + p2.size + d.root.size + p3.size := by omega
   have n4 : ¬ 9223372036854775807 < p1.size + p2.size + d.root.size + p3.size + d.takenRoot.size := by omega
   clear z0 z1 z2 z3 z4 z5 z6 z7 z8 z9 hp1 hp2 hp3 low y1 y2 y3
   go_enter Tryz.func165, Tryz.ntmps165
   go_wp2_with fail
   obtain ⟨g, hg⟩ : ∃ g, g = w.heap.size := ⟨_, rfl⟩
   rw [← hg] at B0
   rw [← hg]
   clear hg
   refine (implHeadOk_any n d _).mono ?_
   rintro e w1 ⟨rfl, h1⟩
   replace he := he.next h1
   replace B0 := B0.ext h1
   rw [b]
   clear h1
   go_upto_region 3 with fail
   refine wp_region_held_drew (S := fun w' => Blk w' g 55 #[.int .i64 d.number, .int .i64 d.size, .string d.root, .int .i64 d.taken, .string d.takenRoot] ∧ Ext w w') (by kernel_rfl) ⟨B0.drew, he.drew⟩ (fun hH => ?_)
   clear B0 he
   refine takeQ 0 (.pointer (some ⟨g, 0, none⟩)) (some 10) rfl rfl (by kernel_rfl) (Or.inl ⟨by rfl, ?yh1⟩) hH ?rh1
   case yh1 => intro w' hS'; go_simp; try with_reducible rfl
   try simp only [zA]
   refine takeQ 1 (.int .i64 d.number) (some 11) rfl rfl (by kernel_rfl) (Or.inl ⟨by rfl, ?yh2⟩) hH ?rh2
   case yh2 => intro w' hS'; have A0 := hS'.1; obtain ⟨r0, f0⟩ := A0.rules; go_simp; try with_reducible rfl
   try simp only [zA]
   refine takeQ 3 (.pointer (some ⟨g, 1, none⟩)) (some 13) rfl rfl (by kernel_rfl) (Or.inl ⟨by rfl, ?yh3⟩) hH ?rh3
   case yh3 => intro w' hS'; go_simp; try with_reducible rfl
   try simp only [zA]
   refine takeQ 4 (.int .i64 d.size) (some 14) rfl rfl (by kernel_rfl) (Or.inl ⟨by rfl, ?yh4⟩) hH ?rh4
   case yh4 => intro w' hS'; have A0 := hS'.1; obtain ⟨r0, f0⟩ := A0.rules; go_simp; try with_reducible rfl
   try simp only [zA]
   refine takeQ 7 (.pointer (some ⟨g, 2, none⟩)) (some 17) rfl rfl (by kernel_rfl) (Or.inl ⟨by rfl, ?yh5⟩) hH ?rh5
   case yh5 => intro w' hS'; go_simp; try with_reducible rfl
   try simp only [zA]
   refine takeQ 8 (.string d.root) (some 18) rfl rfl (by kernel_rfl) (Or.inl ⟨by rfl, ?yh6⟩) hH ?rh6
   case yh6 => intro w' hS'; have A0 := hS'.1; obtain ⟨r0, f0⟩ := A0.rules; go_simp; try with_reducible rfl
   try simp only [zA]
   refine takeQ 10 (.pointer (some ⟨g, 3, none⟩)) (some 20) rfl rfl (by kernel_rfl) (Or.inl ⟨by rfl, ?yh7⟩) hH ?rh7
   case yh7 => intro w' hS'; go_simp; try with_reducible rfl
   try simp only [zA]
   refine takeQ 11 (.int .i64 d.taken) (some 21) rfl rfl (by kernel_rfl) (Or.inl ⟨by rfl, ?yh8⟩) hH ?rh8
   case yh8 => intro w' hS'; have A0 := hS'.1; obtain ⟨r0, f0⟩ := A0.rules; go_simp; try with_reducible rfl
   try simp only [zA]
   refine takeQ 14 (.pointer (some ⟨g, 4, none⟩)) (some 24) rfl rfl (by kernel_rfl) (Or.inl ⟨by rfl, ?yh9⟩) hH ?rh9
   case yh9 => intro w' hS'; go_simp; try with_reducible rfl
   try simp only [zA]
   refine takeQ 15 (.string d.takenRoot) (some 25) rfl rfl (by kernel_rfl) (Or.inl ⟨by rfl, ?yh10⟩) hH ?rh10
   case yh10 => intro w' hS'; have A0 := hS'.1; obtain ⟨r0, f0⟩ := A0.rules; go_simp; try with_reducible rfl
   try simp only [zA]
   refine oneH 2 (oi := _) (some 12) (by kernel_rfl) rfl rfl rfl (fun K' hK => ?_)
   refine ⟨?_⟩
   rw [if_pos (by rfl)]
   go_simp
   refine (C1.out _).mono ?_
   rintro e w2 ⟨rfl, h1⟩
   refine hK.out _ _ ⟨_, rfl⟩ (⟨hH.1.ext h1, hH.2.next h1⟩) (fun hH2 => ?_)
   clear hK K' hH h1
   have hH := hH2
   clear hH2
   try simp only [zB]
   refine oneH 5 (oi := _) (some 15) (by kernel_rfl) rfl rfl rfl (fun K' hK => ?_)
   refine ⟨?_⟩
   rw [if_pos (by rfl)]
   go_simp
   refine (C2.out _).mono ?_
   rintro e w2 ⟨rfl, h1⟩
   refine hK.out _ _ ⟨_, rfl⟩ (⟨hH.1.ext h1, hH.2.next h1⟩) (fun hH2 => ?_)
   clear hK K' hH h1
   have hH := hH2
   clear hH2
   try simp only [zB]
   refine takeQ 6 (.string (p1 ++ p2)) (some 16) rfl rfl (by kernel_rfl) (Or.inl ⟨by rfl, ?yh11⟩) hH ?rh11
   case yh11 => intro w' hS'; have A0 := hS'.1; obtain ⟨r0, f0⟩ := A0.rules; go_simp; try with_reducible rfl
   try simp only [zA]
   refine takeQ 9 (.string (p1 ++ p2 ++ d.root)) (some 19) rfl rfl (by kernel_rfl) (Or.inl ⟨by rfl, ?yh12⟩) hH ?rh12
   case yh12 => intro w' hS'; have A0 := hS'.1; obtain ⟨r0, f0⟩ := A0.rules; go_simp; try with_reducible rfl
   try simp only [zA]
   refine oneH 12 (oi := _) (some 22) (by kernel_rfl) rfl rfl rfl (fun K' hK => ?_)
   refine ⟨?_⟩
   rw [if_pos (by rfl)]
   go_simp
   refine (C3.out _).mono ?_
   rintro e w2 ⟨rfl, h1⟩
   refine hK.out _ _ ⟨_, rfl⟩ (⟨hH.1.ext h1, hH.2.next h1⟩) (fun hH2 => ?_)
   clear hK K' hH h1
   have hH := hH2
   clear hH2
   try simp only [zB]
   refine takeQ 13 (.string (p1 ++ p2 ++ d.root ++ p3)) (some 23) rfl rfl (by kernel_rfl) (Or.inl ⟨by rfl, ?yh13⟩) hH ?rh13
   case yh13 => intro w' hS'; have A0 := hS'.1; obtain ⟨r0, f0⟩ := A0.rules; go_simp; try with_reducible rfl
   try simp only [zA]
   refine takeQ 16 (.string (p1 ++ p2 ++ d.root ++ p3 ++ d.takenRoot)) (some 26) rfl rfl (by kernel_rfl) (Or.inl ⟨by rfl, ?yh14⟩) hH ?rh14
   case yh14 => intro w' hS'; have A0 := hS'.1; obtain ⟨r0, f0⟩ := A0.rules; go_simp; try with_reducible rfl
   try simp only [zA]
   refine takeQ 17 (.string (p1 ++ p2 ++ d.root ++ p3 ++ d.takenRoot)) (some 4) rfl rfl (by kernel_rfl) (Or.inl ⟨by rfl, ?yh15⟩) hH ?rh15
   case yh15 => intro w' hS'; have A0 := hS'.1; obtain ⟨r0, f0⟩ := A0.rules; go_simp; try with_reducible rfl
   try simp only [zA]
   refine takeQ 18 (.bool true) (some 5) rfl rfl (by kernel_rfl) (Or.inl ⟨by rfl, ?yh16⟩) hH ?rh16
   case yh16 => intro w' hS'; go_simp; try with_reducible rfl
   try simp only [zA]
   have he := hH.2
   clear hH n1 n2 n3 n4
   refine wpAnyH_done (by kernel_rfl) ?_ _
   go_wp2_with fail
   go_ret2
   exact ⟨by rw [Ht.out]; rfl, he⟩
end Go.Proofs.YtlgdghpnfclgpaaGreat
