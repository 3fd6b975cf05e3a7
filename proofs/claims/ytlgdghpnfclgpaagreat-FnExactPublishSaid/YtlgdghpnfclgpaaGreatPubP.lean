/-
  FramesWk; HeadRead; ReadHead; TextsP; PubP: No condition.
-/
import Derived.Test.YtlgdghpnfclgpaaGreatFramesLaw
import Derived.Test.YtlgdghpnfclgpaaGreatPath
import Derived.Test.YtlgdghpnfclgpaaGreatLogs
import Derived.Test.YtlgdghpnfclgpaaGreatLeaf
import Derived.Test.YtlgdghpnfclgpaaGreatHeadOps
import Derived.Test.YtlgdghpnfclgpaaGreatTypes
import Derived.Test.YtlgdghpnfclgpaaGreatHash
namespace Go.Proofs.YtlgdghpnfclgpaaGreat
set_option maxHeartbeats 4000000
set_option maxRecDepth 100000
set_option linter.unusedSimpArgs false
open Go.RowKit
set_option linter.unusedVariables false
theorem implFrame_any (T : ByteArray) (w : World) (hT : T.size ≤ maxLen) : Calls Tryz.prog 211 #[.string T] w fun e w' => e = .returned (.tuple #[.string (frameOut T), .bool (fits1 T)]) ∧ Ext w w' := by
 have HT := hU hT
 unfold maxLen at hT
 unfold fits1
 cases b1 : inR T.size 1 1000
 · have E := hU (show frameOut T = ⟨#[]⟩ by simp [frameOut, b1])
   go_enter Tryz.func211, Tryz.ntmps211
   go_wp2_with (go_at_call 135; refine (inRange_any _ _ _ _).mono ?_; rintro e w' ⟨rfl, rfl⟩)
   go_ret2
   exact ⟨by rw [E.out]; rfl, Below.refl _ _⟩
 · have E := hU (show frameOut T = frameB T by simp [frameOut, b1])
   obtain ⟨h0, h1⟩ := inR_true b1
   have d4 := dig4_size b1
   have l2 := lowB_size T.size 2
   have n1 : ¬ 9223372036854775807 < (lowB T.size 2).size + (digest 4 4 T).size := by omega
   have n2 : ¬ 9223372036854775807 < (lowB T.size 2).size + (digest 4 4 T).size + T.size := by omega
   have he := Below.refl w.heap.size w
   go_enter Tryz.func211, Tryz.ntmps211
   go_wp2_with (go_at_call 135; refine (inRange_any _ _ _ _).mono ?_; rintro e w' ⟨rfl, rfl⟩)
   refine (Digest_any 4 4 T _ HT.out).mono ?_
   rintro e w1 ⟨rfl, hx⟩
   replace he : Ext w w1 := Ext.next he hx
   go_wp2_with fail
   refine (pair_any T.size _ (by omega) (by omega)).mono ?_
   rintro e w2 ⟨rfl, hx⟩
   rw [← lowB_two]
   replace he : Ext w w2 := he.next hx
   go_wp2_with fail
   go_ret2
   exact ⟨by rw [E.out]; rfl, he⟩
theorem frameOut_fits {T : ByteArray} (h : fits1 T = true) : frameOut T = frameB T := by
 unfold frameOut; unfold fits1 at h; rw [if_pos h]
structure FInv (l : List ByteArray) (k : Nat) : Prop where
 le : k ≤ l.length
 fits : ∀ T ∈ l.take k, fits1 T = true
 small : (framesT (l.take k)).size ≤ 300000
theorem FInv.start (l : List ByteArray) : FInv l 0 := ⟨Nat.zero_le _, by simp, by simp [framesT]; exact Nat.zero_le _⟩
theorem FInv.next {l : List ByteArray} {k : Nat} {T : ByteArray} (h : FInv l k) (hT : l[k]? = some T) (hf : fits1 T = true) (hs : (framesT (l.take k)).size + (frameB T).size ≤ 300000) : FInv l (k + 1) := by
 obtain ⟨hk, he⟩ := List.getElem?_eq_some_iff.1 hT
 refine ⟨hk, fun x hx => ?_, by rw [framesT_next hT, ByteArray.size_append]; exact hs⟩
 rw [List.take_succ_eq_append_getElem hk] at hx
 rcases List.mem_append.1 hx with hx | hx
 · exact h.fits x hx
 · obtain rfl : x = l[k] := by simpa using hx
   rw [he]; exact hf
theorem FInv.done {l : List ByteArray} (h : FInv l l.length) (hl : l.length ≤ 600) : framesOk l = true := by
 obtain ⟨_, h1, h2⟩ := h
 rw [List.take_length] at h1 h2
 exact framesOk_yes hl h1 h2
theorem framesOut_no {l : List ByteArray} (h : framesOk l = false) : framesOut l = ⟨#[]⟩ := by simp [framesOut, h]
theorem framesOut_yes {l : List ByteArray} (h : framesOk l = true) : framesOut l = framesT l := by simp [framesOut, h]
theorem framesOk_long {l : List ByteArray} (h : ¬ l.length ≤ 600) : framesOk l = false := by simp [framesOk, h]
theorem sone_at {l : List ByteArray} {w : World} {b off : Nat} {k : Nat} {d : ByteArray} (hc : ∀ j u, (l.flatMap sone)[k * 1 + j]? = some u → w.cell? ⟨b, off + k * 1 + j, none⟩ = some u) (hd : l[k]? = some d) :
 w.cell? ⟨b, off + k, none⟩ = some (.string d) := by
 have := hc 0 _ (flat_at sone 1 sone_length l k 0 d hd (by omega))
 rwa [Nat.add_zero, Nat.mul_one] at this
theorem specFrames_any (A : Option Addr) (c : Nat) (l : List ByteArray) (w : World) (hr : ReadsL w w.heap.size sone 1 A l) (hl : l.length ≤ 1048576) (hs : ∀ T ∈ l, T.size ≤ maxLen) :
 Calls Tryz.prog 236 #[.slice A l.length c] w fun e w' => e = .returned (.tuple #[.string (framesOut l), .bool (framesOk l)]) ∧ Ext w w' := by
 by_cases h6 : l.length ≤ 600
 case neg =>
  have E := hU (framesOk_long h6)
  go_enter Tryz.func236, Tryz.ntmps236
  go_wp2_with fail
  go_ret2
  exact ⟨by rw [framesOut_no E.out, E.out]; rfl, Below.refl _ _⟩
 have HS := hU hs; clear hs
 have HR := hU hr; clear hr
 obtain ⟨i0, hinf, hz0, hz1, hz2⟩ := info_parts info_u8
 have H0 := hU (ownsRow_empty w 5 1)
 have He := hU (Ext.new (Below.refl w.heap.size w) (.cells #[] 5))
 go_enter Tryz.func236, Tryz.ntmps236
 go_wp2_with fail
 obtain ⟨B, hB⟩ : ∃ B, B = w.heap.size := ⟨_, rfl⟩
 rw [← hB] at H0
 rw [← hB]
 have Hb : w.heap.size ≤ B := by omega
 have HB := hU hB
 clear hB
 go_loopw [4, 5] (fun v x wr => ∃ k : Nat, FInv l k ∧ x = .int .i64 k ∧ OwnB B wr v (framesT (l.take k)).size (intsOf (framesT (l.take k))) ∧ (k = 0 → ∃ a c, v = .slice (some a) 0 c) ∧ Ext w wr) (fun _ x _ => l.length - (intOf x).toNat)
 case atStart => exact ⟨0, FInv.start l, rfl, H0.out, fun _ => ⟨_, _, rfl⟩, He.out⟩
 case round =>
  clear H0 He
  obtain ⟨k, hI, rfl, hown, hz, he⟩ := hrel
  obtain ⟨A', c', rfl, hnc⟩ := ownsRow_form hown
  have KO := hU hown
  have HI := hU hI
  have HZ := hU hz
  have hk := hI.le
  have hsm := hI.small
  clear hown hI hz
  by_cases hlt : k < l.length
  case neg =>
   obtain rfl : k = l.length := by omega
   have E := hU (HI.out.done h6)
   have hown := KO.out
   have hconv : (convert 166 9 (.slice A' (framesT (l.take l.length)).size c')).run Tryz.prog wr = .ok (.string (framesT l)) wr := by
    rw [List.take_length] at hown ⊢
    rcases Nat.eq_zero_or_pos l.length with h0 | h0
    · obtain ⟨a, c2, ha⟩ := HZ.out h0
      obtain rfl := List.eq_nil_of_length_eq_zero h0
      obtain ⟨rfl, _, rfl⟩ : A' = some a ∧ (framesT (List.take ([] : List ByteArray).length [])).size = 0 ∧ c' = c2 := by simpa using ha
      exact string0 _ _ _
    · have hpos : 0 < (framesT l).size := by
       cases l with
       | nil => simp at h0
       | cons T l =>
         have h1 := frameB_size ((framesOk_all E.out).2.1 T (by simp))
         rw [framesT, ByteArray.size_append]; omega
      have := own_string (n := (framesT l).size) (by rw [intsOf_len]) hown hpos (intsOf_rng _)
      rwa [ofInts_intsOf] at this
   have hdk : decide ((l.length : Int) < (l.length : Int)) = false := by simp
   have hconv2 := hconv
   rw [List.take_length] at hconv2
   clear KO hown
   go_wp2_with fail
   go_ret2
   exact ⟨by rw [framesOut_yes E.out, E.out]; rfl, he⟩
  have hdk : decide ((k : Int) < (l.length : Int)) = true := by rw [decide_eq_true_eq]; omega
  obtain ⟨g, off, rfl, hg, hc⟩ := (HR.out.ext he).at_ (k := k) hlt
  obtain ⟨T, hT⟩ : ∃ T, T = l[k] := ⟨_, rfl⟩
  have hTl : l[k]? = some T := by rw [hT]; exact List.getElem?_eq_getElem hlt
  have c0 := sone_at hc hTl
  have HTl := hU hTl
  have HTs := hU (HS.out T (List.mem_of_getElem? hTl))
  clear hc hT hTl
  go_wp2_with fail
  refine (specFrame_any T _ HTs.out).mono ?_
  rintro e w1 ⟨rfl, e1⟩
  have he1 := he.next e1
  have KO1 := hU (ownsRow_ext KO.out e1)
  clear c0 KO he e1
  cases hf : inR T.size 1 1000
  · have E := hU (framesOk_no1 HTl.out (show fits1 T = false from hf))
    go_wp2_with fail
    go_ret2
    exact ⟨by rw [framesOut_no E.out, E.out]; rfl, he1⟩
  rw [frameOut_fits (show fits1 T = true from hf)]
  have hfs := frameB_size (show fits1 T = true from hf)
  obtain ⟨t0, t1⟩ := fits1_le (show fits1 T = true from hf)
  have Hsn := hU (framesT_next HTl.out)
  by_cases hfit : (framesT (l.take k)).size + (frameB T).size ≤ 300000
  case neg =>
   have E := hU (framesOk_no2 HTl.out (by omega))
   have d3 : decide (300000 - ((framesT (l.take k)).size : Int) < ((frameB T).size : Int)) = true := by rw [decide_eq_true_eq]; omega
   go_wp2_with fail
   go_ret2
   exact ⟨by rw [framesOut_no E.out, E.out]; rfl, he1⟩
  have d3 : decide (300000 - ((framesT (l.take k)).size : Int) < ((frameB T).size : Int)) = false := by rw [decide_eq_false_iff_not]; omega
  have HN := hU (HI.out.next HTl.out (show fits1 T = true from hf) hfit)
  obtain ⟨cap, w2, hrun, e2, hcell⟩ := to_bytes (P := Tryz.prog) (frameB T) Tryz.underlying9 Tryz.underlying166 Tryz.underlying5 w1
  have he2 := he1.next e2
  have KO2 := hU (ownsRow_ext KO1.out e2)
  obtain ⟨F, hF⟩ : ∃ F, F = frameB T := ⟨_, rfl⟩
  obtain ⟨G, hG⟩ : ∃ G, G = framesT (l.take k) := ⟨_, rfl⟩
  have Hn : Hid (bvals (intsOf G) ++ bvals (intsOf F) = bvals (intsOf (framesT (l.take (k + 1)))) ∧ (framesT (l.take (k + 1))).size = G.size + F.size) := hU (by rw [hF, hG, ← bvals_append, ← intsOf_append, Hsn.out, ByteArray.size_append]; exact ⟨rfl, rfl⟩)
  rw [← hF] at hrun hcell hfs hfit d3
  have hFs : F.size ≤ 1006 := by omega
  rw [← hG] at KO2 hsm hfit d3
  rw [← hF]
  try rw [← hG]
  have hnews : Hid (∀ j u, (bvals (intsOf F))[j]? = some u → w2.cell? ((⟨w1.heap.size, 0, none⟩ : Addr).add j) = some u) := hU (by
   intro j u hu
   have hj : j < F.size := by
    have := (List.getElem?_eq_some_iff.1 hu).1
    rwa [bvals_len, intsOf_len] at this
   rw [intsOf_get hj] at hu
   rw [add_mk, Nat.zero_add, hcell j hj, hu])
  have hB2 : B ≤ w2.heap.size := by have := he2.size; have := HB.out; omega
  clear hF hG he1 KO1 e2 hcell Hsn hfs
  go_wp2_with (at_builtin; refine wpList_append_own _ rfl _ _ 166 rfl B 5 i0 (.int .u8 0) 1 1 Tryz.underlying166 hinf hz0 hz1 hz2 rfl (by decide) _ _ _ rfl KO2.out ⟨w1.heap.size, 0, none⟩ F.size cap (bvals (intsOf F)) rfl ?c0 ?c1 ?c2 ?c3 ?c4 ?c5 ?_)
  case c0 => rw [bvals_len, intsOf_len, Nat.mul_one]
  case c1 => exact hnews.out
  case c2 => exact bvals_one _
  case c3 => unfold maxLen; omega
  case c4 => omega
  case c5 => exact hB2
  intro v' w3 hown' hgrow _
  have he3 := Ext.ownGrown he2 KO2.out hgrow Hb
  rw [Hn.out.1] at hown'
  have KO' := hU (show OwnB B w3 v' (framesT (l.take (k + 1))).size (intsOf (framesT (l.take (k + 1)))) from by rw [Hn.out.2]; exact hown')
  clear hown' hgrow KO2 he2 hnews hrun
  go_wp2_with fail
  go_roundw
  case rel => exact ⟨k + 1, HN.out, by go_num, KO'.out, fun h => absurd h (by omega), he3⟩
  case measure => simp [intOf]; omega
def rh1 (T : ByteArray) (r : Rd) : Rd := rdNext T r 2
def rh2 (T : ByteArray) (r : Rd) : Rd := rdNext T (rh1 T r) 2
def rh3 (T : ByteArray) (r : Rd) (m : Nat) : Rd := rdNext T (rh2 T r) m
def rh4 (T : ByteArray) (r : Rd) (m : Nat) : Rd := rdNext T (rh3 T r m) 2
def rh5 (T : ByteArray) (r : Rd) (m : Nat) : Rd := rdNext T (rh4 T r m) m
def rhD (T : ByteArray) (r : Rd) (m : Nat) : HeadD := ⟨(beNum (rdTake T r 2) : Int), (beNum (rdTake T (rh1 T r) 2) : Int), rdTake T (rh2 T r) m, (beNum (rdTake T (rh3 T r m) 2) : Int), rdTake T (rh4 T r m) m⟩
set_option maxHeartbeats 2000000
def headT (h : HeadD) : ByteArray := lowB h.number.toNat 2 ++ lowB h.size.toNat 2 ++ h.root ++ lowB h.taken.toNat 2 ++ h.takenRoot
def headText (n : Int) (h : HeadD) : ByteArray := if headOk n h then headT h else ⟨#[]⟩
theorem headOk_bounds {n : Int} {h : HeadD} (hk : headOk n h = true) : 1 ≤ n ∧ n ≤ 32 ∧ 0 ≤ h.number ∧ h.number ≤ 399 ∧ 0 ≤ h.size ∧ h.size ≤ 512 ∧ (h.root.size : Int) = n ∧ 0 ≤ h.taken ∧ h.taken ≤ 512 ∧ (h.takenRoot.size : Int) = n := by
 simp only [headOk, rootB, Bool.and_eq_true, beq_iff_eq] at hk
 obtain ⟨⟨⟨h1, h2⟩, ⟨h3, h4⟩, _⟩, ⟨h5, h6⟩, _⟩ := hk
 have := inR_true h1
 have := inR_true h2
 have := inR_true h3
 have := inR_true h5
 omega
theorem specHeadText_any (n : Int) (d : HeadD) (w : World) : Calls Tryz.prog 131 #[.int .i64 n, .agg #[.int .i64 d.number, .int .i64 d.size, .string d.root, .int .i64 d.taken, .string d.takenRoot]] w fun e w' => e = .returned (.tuple #[.string (headText n d), .bool (headOk n d)]) ∧ Ext w w' := by
 have K0 := hU (Blk.new w 55 #[.int .i64 d.number, .int .i64 d.size, .string d.root, .int .i64 d.taken, .string d.takenRoot])
 have He := hU (Ext.new (Below.refl w.heap.size w) (.cells #[.int .i64 d.number, .int .i64 d.size, .string d.root, .int .i64 d.taken, .string d.takenRoot] 55))
 cases b : headOk n d
 · have Ht := hU (show headText n d = ⟨#[]⟩ by simp [headText, b])
   go_enter Tryz.func131, Tryz.ntmps131
   go_wp2_with fail
   refine (specHeadOk_any n d _).mono ?_
   rintro e w1 ⟨rfl, h1⟩
   have he := He.out.next h1
   go_wp2_with fail
   go_ret2
   exact ⟨by rw [Ht.out]; rfl, he⟩
 · have Ht := hU (show headText n d = lowB d.number.toNat 2 ++ lowB d.size.toNat 2 ++ d.root ++ lowB d.taken.toNat 2 ++ d.takenRoot by simp [headText, b, headT])
   obtain ⟨z0, z1, z2, z3, z4, z5, z6, z7, z8, z9⟩ := headOk_bounds b
   have y1 : (lowB d.number.toNat 2).size ≤ 2 := by rw [lowB_size]; exact Nat.le_refl _
   have y2 : (lowB d.size.toNat 2).size ≤ 2 := by rw [lowB_size]; exact Nat.le_refl _
   have y3 : (lowB d.taken.toNat 2).size ≤ 2 := by rw [lowB_size]; exact Nat.le_refl _
   have n1 : ¬ 9223372036854775807 < (lowB d.number.toNat 2).size + (lowB d.size.toNat 2).size := by omega
   have n2 : ¬ 9223372036854775807 < (lowB d.number.toNat 2).size + (lowB d.size.toNat 2).size + d.root.size := by omega
   have n3 : ¬ 9223372036854775807 < (lowB d.number.toNat 2).size + (lowB d.size.toNat 2).size + d.root.size + (lowB d.taken.toNat 2).size := by omega
   have n4 : ¬ 9223372036854775807 < (lowB d.number.toNat 2).size + (lowB d.size.toNat 2).size + d.root.size + (lowB d.taken.toNat 2).size + d.takenRoot.size := by omega
   clear z0 z1 z6 z9
   go_enter Tryz.func131, Tryz.ntmps131
   go_wp2_with fail
   obtain ⟨g, hg⟩ : ∃ g, g = w.heap.size := ⟨_, rfl⟩
   rw [← hg] at K0
   rw [← hg]
   clear hg
   refine (specHeadOk_any n d _).mono ?_
   rintro e w1 ⟨rfl, h1⟩
   have he := He.out.next h1
   have hB := K0.out.ext h1
   clear h1 K0 He
   have c0 := hB.cell 0
   have c1 := hB.cell 1
   have c2 := hB.cell 2
   have c3 := hB.cell 3
   have c4 := hB.cell 4
   go_wp2_with fail
   go_region_held3 (fun w' => w'.cell? ⟨g, 0, none⟩ = some (.int .i64 d.number) ∧ w'.cell? ⟨g, 1, none⟩ = some (.int .i64 d.size) ∧ w'.cell? ⟨g, 2, none⟩ = some (.string d.root) ∧ w'.cell? ⟨g, 3, none⟩ = some (.int .i64 d.taken) ∧ w'.cell? ⟨g, 4, none⟩ = some (.string d.takenRoot) ∧ Blk w' g 55 #[.int .i64 d.number, .int .i64 d.size, .string d.root, .int .i64 d.taken, .string d.takenRoot] ∧ Ext w w')
    (first
     | exact ⟨c0, c1, c2, c3, c4, hB.drew, he.drew⟩
     | (go_split_ands; refine ⟨?_, ?_, ?_, ?_, ?_, ?_, ?_⟩ <;> assumption)
     | (go_split_ands; have hB' := Blk.ext (by assumption) h1; exact ⟨hB'.cell 0, hB'.cell 1, hB'.cell 2, hB'.cell 3, hB'.cell 4, hB', Ext.next (by assumption) h1⟩))
    (first
     | (go_at_call 183; refine (l03NumberI_any _ 2 _ (by omega) (by omega) (by decide)).mono ?_; rintro e w' ⟨rfl, h1⟩))
   all_goals
    go_wp2_with fail
    go_ret2
    refine ⟨by rw [Ht.out]; rfl, ?_⟩
    go_split_ands
    assumption
def rh0 : Rd := ⟨0, false⟩
def hrD (n : Int) (T : ByteArray) : HeadD := rhD T rh0 n.toNat
def hrImpl (n : Int) (T : ByteArray) : Bool := inR n 1 32 && (rdDone T (rh5 T rh0 n.toNat) && headOk n (hrD n T))
def HeadD.zero : HeadD := ⟨0, 0, ⟨#[]⟩, 0, ⟨#[]⟩⟩
def textsE (b : BrokerD) : List ByteArray := b.log.entries.map leafText
def textsH (b : BrokerD) : List ByteArray := (b.heads.drop 1).map (headText b.width)
def textsR (b : BrokerD) : List ByteArray := b.receipts.map receiptText
def fileT (b : BrokerD) (f : Nat) : List ByteArray := (if f = 0 then textsE b else []) ++ (if f = 1 then textsH b else []) ++ (if f = 2 then textsR b else [])
theorem fileT_0 (b : BrokerD) : fileT b 0 = textsE b := by simp [fileT]
theorem fileT_1 (b : BrokerD) : fileT b 1 = textsH b := by simp [fileT]
theorem fileT_2 (b : BrokerD) : fileT b 2 = textsR b := by simp [fileT]
def offT : List ByteArray → Nat
 | [] => 0
 | t :: r => (6 + t.size) + offT r
theorem offT_append : ∀ (a b : List ByteArray), offT (a ++ b) = offT a + offT b
 | [], b => by simp [offT]
 | t :: r, b => by simp only [List.cons_append, offT, offT_append r b]; omega
theorem offT_le {m : Nat} : ∀ {l : List ByteArray}, (∀ t ∈ l, t.size ≤ m) → offT l ≤ l.length * (m + 6)
 | [], _ => by simp [offT]
 | t :: r, h => by
   have h1 := h t (by simp)
   have h2 := offT_le (l := r) (m := m) (fun x hx => h x (by simp [hx]))
   simp only [offT, List.length_cons, Nat.succ_mul]
   omega
theorem offT_take {l : List ByteArray} {k : Nat} {t : ByteArray} (h : l[k]? = some t) : offT (l.take (k + 1)) = offT (l.take k) + (6 + t.size) := by
 obtain ⟨h1, h2⟩ := List.getElem?_eq_some_iff.1 h
 rw [List.take_succ_eq_append_getElem h1, offT_append, h2]
 simp [offT]
theorem framesT_off : ∀ {l : List ByteArray}, (∀ t ∈ l, fits1 t = true) → (framesT l).size = offT l
 | [], _ => rfl
 | t :: r, h => by
   have h1 := frameB_size (h t (by simp))
   have h2 := framesT_off (l := r) (fun x hx => h x (by simp [hx]))
   simp only [framesT, ByteArray.size_append, offT, h1, h2]
   omega
theorem leafText_fits {d : EntryD} (h : entryOk d = true) : 1 ≤ (leafText d).size ∧ (leafText d).size ≤ 500 := by
 have := entryOk_bounds h
 unfold leafText
 rw [if_pos h, leafT]
 have e : (lowB d.time.toNat 4).size = 4 := rfl
 have e1 : (⟨#[69]⟩ : ByteArray).size = 1 := rfl
 have o1 : ∀ k : Int, (octB k).size = 1 := fun _ => rfl
 simp only [ByteArray.size_append, o1, e, e1]
 omega
theorem receiptText_fits {d : ReceiptD} (h : receiptOk d = true) : 1 ≤ (receiptText d).size ∧ (receiptText d).size ≤ 500 := by
 have h' := h
 simp only [receiptOk, Bool.and_eq_true] at h'
 have s1 := nameOk_size h'.1.1
 have s2 := nameOk_size h'.1.2
 unfold receiptText
 rw [if_pos h, receiptT]
 have e1 : (⟨#[82]⟩ : ByteArray).size = 1 := rfl
 have o1 : ∀ k : Int, (octB k).size = 1 := fun _ => rfl
 simp only [ByteArray.size_append, o1, e1]
 omega
theorem headText_fits {n : Int} {d : HeadD} (h : headOk n d = true) : 1 ≤ (headText n d).size ∧ (headText n d).size ≤ 500 := by
 have := headOk_bounds h
 unfold headText
 rw [if_pos h, headT]
 simp only [ByteArray.size_append, lowB_size]
 omega
theorem fits_of {t : ByteArray} (h : 1 ≤ t.size ∧ t.size ≤ 500) : fits1 t = true := by
 unfold fits1 inR
 simp only [Bool.and_eq_true, decide_eq_true_eq]
 omega
theorem frames_ok {l : List ByteArray} (hl : l.length ≤ 512) (h : ∀ t ∈ l, 1 ≤ t.size ∧ t.size ≤ 500) : framesOk l = true ∧ (framesOut l).size = offT l := by
 have h1 : ∀ t ∈ l, fits1 t = true := fun t ht => fits_of (h t ht)
 have h2 := framesT_off h1
 have h3 := offT_le (l := l) (m := 500) (fun t ht => (h t ht).2)
 have h4 : framesOk l = true := framesOk_yes (by omega) h1 (by rw [h2]; omega)
 exact ⟨h4, by rw [framesOut_yes h4, h2]⟩
theorem file_fits {b : BrokerD} (hE : ∀ e ∈ b.log.entries, entryOk e = true) (hR : ∀ r ∈ b.receipts, receiptOk r = true) (hH : ∀ h ∈ b.heads, headOk b.width h = true) (f : Nat) : ∀ t ∈ fileT b f, 1 ≤ t.size ∧ t.size ≤ 500 := by
 intro t ht
 unfold fileT at ht
 rw [List.mem_append, List.mem_append] at ht
 rcases ht with (ht | ht) | ht
 · split at ht
   · obtain ⟨e, he, rfl⟩ := List.mem_map.1 ht; exact leafText_fits (hE e he)
   · simp at ht
 · split at ht
   · obtain ⟨e, he, rfl⟩ := List.mem_map.1 ht; exact headText_fits (hH e (List.mem_of_mem_drop he))
   · simp at ht
 · split at ht
   · obtain ⟨e, he, rfl⟩ := List.mem_map.1 ht; exact receiptText_fits (hR e he)
   · simp at ht
theorem file_len {b : BrokerD} (h0 : b.log.entries.length ≤ 512) (h1 : b.receipts.length ≤ 512) (h2 : b.heads.length ≤ 400) (f : Nat) : (fileT b f).length ≤ 512 := by
 unfold fileT
 by_cases f0 : f = 0
 · subst f0; simp [textsE]; omega
 by_cases f1 : f = 1
 · subst f1; simp [textsH]; omega
 by_cases f2 : f = 2
 · subst f2; simp [textsR]; omega
 simp [f0, f1, f2]
theorem broker_parts {b : BrokerD} (h : brokerB b = true) : inR b.width 1 32 = true ∧ b.log.entries.length ≤ 512 ∧ (∀ e ∈ b.log.entries, entryOk e = true) ∧ b.receipts.length ≤ 512 ∧ (∀ r ∈ b.receipts, receiptOk r = true) ∧ 0 < b.heads.length ∧ b.heads.length ≤ 400 ∧ (∀ h ∈ b.heads, headOk b.width h = true) := by
 rw [brokerB, Bool.and_eq_true] at h
 have p := h.1
 simp only [brkParts, Bool.and_eq_true, decide_eq_true_eq] at p
 obtain ⟨⟨⟨⟨⟨⟨⟨hw, hlog⟩, hrec⟩, h0⟩, hh⟩, hz0⟩, hsl⟩, hrd⟩ := p
 have l3 := headsOk_all hh
 refine ⟨hw, (logOk_all hlog).1, (logOk_all hlog).2, (recsOk_all hrec).1, (recsOk_all hrec).2, h0, l3.2.1, fun x hx => ?_⟩
 obtain ⟨j, hj, e⟩ := List.mem_iff_getElem.1 hx
 exact (headAt_ok (List.getElem?_eq_some_iff.2 ⟨hj, e⟩) (l3.2.2 j hj)).1
def writeW (b : BrokerD) (f : Nat) (t : ByteArray) : WriteD := ⟨(f : Int), ((offT (fileT b f) : Nat) : Int), frameOut t⟩
def adCode (l : List EntryD) (e : EntryD) : Nat := if nameOk e.topic then (if partsB e.time e.key e.body then (if 512 ≤ l.length then 4 else 0) else 3) else 2
theorem ad2 {l : List EntryD} {e : EntryD} (h : nameOk e.topic = false) : adCode l e = 2 := by simp [adCode, h]
theorem ad3 {l : List EntryD} {e : EntryD} (h : nameOk e.topic = true) (h1 : partsB e.time e.key e.body = false) : adCode l e = 3 := by simp [adCode, h, h1]
theorem ad4 {l : List EntryD} {e : EntryD} (h : nameOk e.topic = true) (h1 : partsB e.time e.key e.body = true) (h2 : 512 ≤ l.length) : adCode l e = 4 := by simp [adCode, h, h1, h2]
theorem ad0 {l : List EntryD} {e : EntryD} (h : nameOk e.topic = true) (h1 : partsB e.time e.key e.body = true) (h2 : ¬ 512 ≤ l.length) : adCode l e = 0 := by simp [adCode, h, h1, h2]
theorem ad_good {l : List EntryD} {e : EntryD} (h : adCode l e = 0) : nameOk e.topic = true ∧ partsB e.time e.key e.body = true ∧ l.length < 512 := by
 unfold adCode at h
 cases h1 : nameOk e.topic
 · rw [h1] at h; simp at h
 · cases h2 : partsB e.time e.key e.body
   · rw [h1, h2] at h; simp at h
   · rw [h1, h2] at h
     by_cases h3 : 512 ≤ l.length
     · simp [h3] at h
     · exact ⟨rfl, rfl, by omega⟩
def pbNew (b : BrokerD) (e : EntryD) : EntryD := addNew b.log.entries e
def pbB0 (b : BrokerD) (e : EntryD) : BrokerD := ⟨b.width, ⟨b.log.entries ++ [pbNew b e]⟩, b.receipts, b.heads, b.sealed⟩
theorem write0 {b b' : BrokerD} (h : b'.log = b.log) (t : ByteArray) : writeW b' 0 t = writeW b 0 t := by
 unfold writeW; rw [fileT_0, fileT_0, textsE, textsE, h]
end Go.Proofs.YtlgdghpnfclgpaaGreat
