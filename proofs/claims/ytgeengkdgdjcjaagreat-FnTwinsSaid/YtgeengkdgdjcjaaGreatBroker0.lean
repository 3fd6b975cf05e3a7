/-
  ReadRec; ReadLf; LeafBk; LeafOne0; Forks; NLog; NRange; NSeal; NBroker; ClientNw; Broker0: No condition.
-/
import Derived.Test.YtgeengkdgdjcjaaGreatLeaf
import Derived.Test.YtgeengkdgdjcjaaGreatNItem
import Derived.Test.YtgeengkdgdjcjaaGreatLeafText
import Derived.Test.YtgeengkdgdjcjaaGreatMapStr
import Derived.Test.YtgeengkdgdjcjaaGreatNString
import Derived.StillTailTactics
import Derived.Test.YtgeengkdgdjcjaaGreatPre
import Derived.Test.YtgeengkdgdjcjaaGreatLogs
namespace Go.Proofs.YtgeengkdgdjcjaaGreat
set_option linter.unusedSimpArgs false
open Go.RowKit
set_option linter.unusedVariables false

def rl0 : Rd := ⟨0, false⟩
def rl1 (T : ByteArray) : Rd := rdNext T rl0 1
def rl2 (T : ByteArray) : Rd := rdShortNext T (rl1 T) 1
def rl3 (T : ByteArray) : Rd := rdNext T (rl2 T) 2
def rl4 (T : ByteArray) : Rd := rdNext T (rl3 T) 4
def rl5 (T : ByteArray) : Rd := rdShortNext T (rl4 T) 1
def rl6 (T : ByteArray) : Rd := rdShortNext T (rl5 T) 2
def rlD (T : ByteArray) : EntryD := ⟨rdShort T (rl1 T) 1, (beNum (rdTake T (rl2 T) 2) : Int), (beNum (rdTake T (rl3 T) 4) : Int), rdShort T (rl4 T) 1, rdShort T (rl5 T) 2⟩
def rlKind (T : ByteArray) : Bool := (rdTake T rl0 1).toList == [69]
def rlImpl (T : ByteArray) : Bool := rlKind T && rdDone T (rl6 T) && entryOk (rlD T)
def Rest (T : ByteArray) (r : Rd) (Y : ByteArray) : Prop := r.bad = false ∧ ∃ X, T = X ++ Y ∧ X.size = r.pos
theorem Rest.start (T : ByteArray) : Rest T ⟨0, false⟩ T := ⟨rfl, ⟨#[]⟩, by rw [show (⟨#[]⟩ : ByteArray) ++ T = T from ByteArray.empty_append], rfl⟩
theorem part_mid (X a Y : ByteArray) : (X ++ (a ++ Y)).extract X.size (X.size + a.size) = a := by
 have h1 : (X ++ (a ++ Y)).extract X.size (X.size + a.size) = (X ++ (a ++ Y)).extract (X.size + 0) (X.size + a.size) := rfl
 apply ByteArray.ext
 rw [← Array.toList_inj]
 simp [ByteArray.data_extract, ByteArray.data_append, List.drop_append, List.take_append, ← ByteArray.size_data]
theorem Rest.take {T : ByteArray} {r : Rd} {a Y : ByteArray} {n : Nat} (h : Rest T r (a ++ Y)) (hn : a.size = n) : rdTake T r n = a ∧ Rest T (rdNext T r n) Y := by
 obtain ⟨hb, X, rfl, hX⟩ := h
 subst hn
 have hf : rdFails (X ++ (a ++ Y)) r a.size = false := by
  simp only [rdFails, hb, Bool.false_or, decide_eq_false_iff_not, ByteArray.size_append]
  omega
 refine ⟨?_, ?_, X ++ a, ?_, ?_⟩
 · rw [rdTake, hf, ← hX]; exact part_mid X a Y
 · rw [rdNext, hf]; rfl
 · rw [ByteArray.append_assoc]
 · rw [rdNext, hf, ByteArray.size_append, hX]; rfl
theorem Rest.short {T : ByteArray} {r : Rd} {b a Y : ByteArray} {n : Nat} (h : Rest T r (b ++ (a ++ Y))) (hn : b.size = n) (hb : beNum b = a.size) : rdShort T r n = a ∧ Rest T (rdShortNext T r n) Y := by
 obtain ⟨h1, h2⟩ := h.take hn
 rw [rdShort, rdShortNext, h1, hb]
 exact h2.take rfl
theorem Rest.done {T : ByteArray} {r : Rd} (h : Rest T r ⟨#[]⟩) : rdDone T r = true := by
 obtain ⟨hb, X, rfl, hX⟩ := h
 rw [rdDone, hb, show X ++ (⟨#[]⟩ : ByteArray) = X from ByteArray.append_empty, hX]
 simp
theorem beNum_oct (k : Nat) (h : k < 256) : beNum (octB (k : Int)) = k := by
 have : (UInt8.ofNat k).toNat = k := by simp [UInt8.toNat_ofNat']; omega
 simp [beNum, octB, ofInts, this]
 omega
theorem beNum_oct2 (k : Nat) (h : k < 65536) : beNum (octB ((k : Int) / 256) ++ octB (k : Int)) = k := by
 have e : (k : Int) / 256 = ((k / 256 : Nat) : Int) := by omega
 rw [e]
 simp [beNum, octB, ofInts, ByteArray.data_append, UInt8.toNat_ofNat']
 omega
theorem beNum_four (k : Nat) (h : k < 4294967296) : beNum (lowB k 4) = k := by
 show beNum (octB ((k / 256 ^ 3 : Nat) : Int) ++ (octB ((k / 256 ^ 2 : Nat) : Int) ++ (octB ((k / 256 ^ 1 : Nat) : Int) ++ (octB ((k / 256 ^ 0 : Nat) : Int) ++ ⟨#[]⟩)))) = k
 simp [beNum, octB, ofInts, ByteArray.data_append, UInt8.toNat_ofNat']
 omega
theorem two_size (a b : Int) : (octB a ++ octB b).size = 2 := by rw [ByteArray.size_append]; rfl
theorem nat_of {x : Int} (h : 0 ≤ x) : ∃ k : Nat, x = (k : Int) := ⟨x.toNat, by omega⟩
theorem leaf_back {d : EntryD} (h : entryOk d = true) : rlImpl (leafText d) = true ∧ rlD (leafText d) = d := by
 obtain ⟨t, i, m, y, b⟩ := d
 have hk := h
 simp only [entryOk, partsB, Bool.and_eq_true, decide_eq_true_eq] at h
 obtain ⟨⟨h1, h3⟩, ⟨h4, h5⟩, h6⟩ := h
 have s1 := nameOk_size h1
 obtain ⟨i0, i1⟩ := inR_true h3
 obtain ⟨m0, m1⟩ := inR_true h4
 obtain ⟨k, rfl⟩ := nat_of i0
 obtain ⟨n, rfl⟩ := nat_of m0
 (try simp only at s1 h5 h6 i1 m1)
 have R0 := Rest.start (leafText ⟨t, (k : Int), (n : Int), y, b⟩)
 have e : leafText ⟨t, (k : Int), (n : Int), y, b⟩ = ⟨#[69]⟩ ++ (octB t.size ++ (t ++ ((octB ((k : Int) / 256) ++ octB (k : Int)) ++ (lowB n 4 ++ (octB y.size ++ (y ++ ((octB ((b.size : Int) / 256) ++ octB (b.size : Int)) ++ (b ++ ⟨#[]⟩)))))))) := by
  rw [leafText, hk, if_pos rfl, leafT, show ∀ X : ByteArray, X ++ (⟨#[]⟩ : ByteArray) = X from fun X => ByteArray.append_empty]
  simp only [ByteArray.append_assoc, Int.toNat_natCast]
 generalize leafText ⟨t, (k : Int), (n : Int), y, b⟩ = T at *
 rw [e] at R0
 obtain ⟨p0, R1⟩ := R0.take (n := 1) rfl
 rw [← e] at p0 R1
 obtain ⟨p1, R2⟩ := R1.short (n := 1) rfl (beNum_oct _ (by omega))
 obtain ⟨p2, R3⟩ := R2.take (n := 2) (two_size _ _)
 obtain ⟨p3, R4⟩ := R3.take (n := 4) rfl
 obtain ⟨p4, R5⟩ := R4.short (n := 1) rfl (beNum_oct _ (by omega))
 obtain ⟨p5, R6⟩ := R5.short (n := 2) (two_size _ _) (beNum_oct2 _ (by omega))
 have hD : rlD T = ⟨t, (k : Int), (n : Int), y, b⟩ := by
  show (⟨rdShort T (rl1 T) 1, (beNum (rdTake T (rl2 T) 2) : Int), (beNum (rdTake T (rl3 T) 4) : Int), rdShort T (rl4 T) 1, rdShort T (rl5 T) 2⟩ : EntryD) = _
  rw [show rdShort T (rl1 T) 1 = t from p1, show rdTake T (rl2 T) 2 = _ from p2, show rdTake T (rl3 T) 4 = _ from p3, show rdShort T (rl4 T) 1 = y from p4, show rdShort T (rl5 T) 2 = b from p5, beNum_oct2 _ (by omega), beNum_four _ (by omega)]
 refine ⟨?_, hD⟩
 rw [rlImpl, hD, hk, rlKind, show rdTake T rl0 1 = _ from p0, show rdDone T (rl6 T) = true from R6.done, kind_of]
 simp
theorem leaf_one {a b : EntryD} (ha : entryOk a = true) (hb : entryOk b = true) (h : leafText a = leafText b) : a = b := by
 rw [← (leaf_back ha).2, ← (leaf_back hb).2, h]





set_option maxHeartbeats 1000000
def newH (ok : Bool) (n : Int) : HeadD := if ok then ⟨0, 0, emptyR n, 0, emptyR n⟩ else ⟨0, 0, ⟨#[]⟩, 0, ⟨#[]⟩⟩
theorem specHeadNew_any (n : Int) (w : World) : Calls Tryz.prog 223 #[.int .i64 n] w fun e w' => e = .returned (.tuple #[.agg #[.int .i64 (newH (inR n 1 32) n).number, .int .i64 (newH (inR n 1 32) n).size, .string (newH (inR n 1 32) n).root, .int .i64 (newH (inR n 1 32) n).taken, .string (newH (inR n 1 32) n).takenRoot], .bool (inR n 1 32)]) ∧ Ext w w' := by
 have K0 := hU (Blk.new w 33 #[.int .i64 0, .int .i64 0, .string ⟨#[]⟩, .int .i64 0, .string ⟨#[]⟩])
 have He := hU (Ext.new (Below.refl w.heap.size w) (.cells #[.int .i64 0, .int .i64 0, .string ⟨#[]⟩, .int .i64 0, .string ⟨#[]⟩] 33))
 cases b : inR n 1 32
 all_goals
  go_enter Tryz.func223, Tryz.ntmps223
  go_wp2_with fail
  obtain ⟨g, hg⟩ : ∃ g, g = w.heap.size := ⟨_, rfl⟩
  rw [← hg] at K0
  rw [← hg]
  have Hg : w.heap.size ≤ g := by omega
  clear hg
  refine (specEmptyRoot_any n _).mono ?_
  rintro e w1 ⟨rfl, h1⟩
  have hZ := K0.out.ext h1; have he := He.out.next h1
  clear h1 K0 He
  obtain ⟨zc, zf⟩ := hZ.rules
  go_wp2_with fail
 · have hz := hZ.put 0 [.int .i64 0, .int .i64 0, .string ⟨#[]⟩, .int .i64 0, .string ⟨#[]⟩] #[.int .i64 0, .int .i64 0, .string ⟨#[]⟩, .int .i64 0, .string ⟨#[]⟩] (by decide) rfl
   have hx := ext_setCells (W := w) (g := g) Hg [.int .i64 0, .int .i64 0, .string ⟨#[]⟩, .int .i64 0, .string ⟨#[]⟩] 0 w1 he
   exact ret_row_tmp rfl rfl hz Tryz.underlying33 rfl (by kernel_rfl) rfl ⟨rfl, hx⟩
 · have hz := hZ.put 0 [.int .i64 (newH true n).number, .int .i64 (newH true n).size, .string (newH true n).root, .int .i64 (newH true n).taken, .string (newH true n).takenRoot] #[.int .i64 (newH true n).number, .int .i64 (newH true n).size, .string (newH true n).root, .int .i64 (newH true n).taken, .string (newH true n).takenRoot] (by simp) rfl
   have hx := ext_setCells (W := w) (g := g) Hg [.int .i64 (newH true n).number, .int .i64 (newH true n).size, .string (newH true n).root, .int .i64 (newH true n).taken, .string (newH true n).takenRoot] 0 w1 he
   exact ret_row_tmp rfl rfl hz Tryz.underlying33 rfl (by kernel_rfl) rfl ⟨rfl, hx⟩
theorem implHeadNew_any (n : Int) (w : World) : Calls Tryz.prog 26 #[.int .i64 n] w fun e w' => e = .returned (.tuple #[.agg #[.int .i64 (newH (inR n 1 32) n).number, .int .i64 (newH (inR n 1 32) n).size, .string (newH (inR n 1 32) n).root, .int .i64 (newH (inR n 1 32) n).taken, .string (newH (inR n 1 32) n).takenRoot], .bool (inR n 1 32)]) ∧ Ext w w' := by
 have K0 := hU (Blk.new w 33 #[.int .i64 0, .int .i64 0, .string ⟨#[]⟩, .int .i64 0, .string ⟨#[]⟩])
 have He := hU (Ext.new (Below.refl w.heap.size w) (.cells #[.int .i64 0, .int .i64 0, .string ⟨#[]⟩, .int .i64 0, .string ⟨#[]⟩] 33))
 cases b : inR n 1 32
 · go_enter Tryz.func26, Tryz.ntmps26
   go_wp2_with (go_at_call 53; refine (isWidth_any _ _).mono ?_; rintro e w' ⟨rfl, rfl⟩)
   exact ret_row_tmp rfl rfl K0.out Tryz.underlying33 rfl (by kernel_rfl) rfl ⟨rfl, He.out⟩
 · go_enter Tryz.func26, Tryz.ntmps26
   go_wp2_with (go_at_call 53; refine (isWidth_any _ _).mono ?_; rintro e w' ⟨rfl, rfl⟩)
   obtain ⟨g, hg⟩ : ∃ g, g = w.heap.size := ⟨_, rfl⟩
   rw [← hg] at K0
   rw [← hg]
   have Hg : w.heap.size ≤ g := by omega
   clear hg
   refine (emptyRoot_any n _).mono ?_
   rintro e w1 ⟨rfl, h1⟩
   have hZ := K0.out.ext h1; have he := He.out.next h1
   clear h1 K0 He
   obtain ⟨zc, zf⟩ := hZ.rules
   go_wp2_with fail
   have hz := hZ.put 0 [.int .i64 (newH true n).number, .int .i64 (newH true n).size, .string (newH true n).root, .int .i64 (newH true n).taken, .string (newH true n).takenRoot] #[.int .i64 (newH true n).number, .int .i64 (newH true n).size, .string (newH true n).root, .int .i64 (newH true n).taken, .string (newH true n).takenRoot] (by simp) rfl
   have hx := ext_setCells (W := w) (g := g) Hg [.int .i64 (newH true n).number, .int .i64 (newH true n).size, .string (newH true n).root, .int .i64 (newH true n).taken, .string (newH true n).takenRoot] 0 w1 he
   exact ret_row_tmp rfl rfl hz Tryz.underlying33 rfl (by kernel_rfl) rfl ⟨rfl, hx⟩
def allTo (p : Nat → Bool) : Nat → Bool
 | 0 => true
 | k + 1 => allTo p k && p k
theorem allTo_bad {p : Nat → Bool} {k : Nat} (h : p k = false) : ∀ n, k < n → allTo p n = false
 | 0, hn => absurd hn (by omega)
 | n + 1, hn => by
   by_cases e : k = n
   · subst e; rw [allTo, h, Bool.and_false]
   · rw [allTo, allTo_bad h n (by omega), Bool.false_and]
theorem allTo_good {p : Nat → Bool} {k : Nat} (h : allTo p k = true) (h2 : p k = true) : allTo p (k + 1) = true := by rw [allTo, h, h2]; rfl
theorem allTo_iff {p : Nat → Bool} : ∀ {n : Nat}, allTo p n = true ↔ ∀ k, k < n → p k = true
 | 0 => ⟨fun _ k h => absurd h (by omega), fun _ => rfl⟩
 | n + 1 => by
   rw [allTo, Bool.and_eq_true, allTo_iff (n := n)]
   refine ⟨fun h k hk => ?_, fun h => ⟨fun k hk => h k (by omega), h n (by omega)⟩⟩
   by_cases e : k = n
   · subst e; exact h.2
   · exact h.1 k (by omega)
def logAt (l : List EntryD) (i : Nat) : Bool := match l[i]? with
 | some d => entryOk d && ((cntT (l.take i) d.topic : Int) == d.index)
 | none => false
def logOk (l : List EntryD) : Bool := decide (l.length ≤ 512) && allTo (logAt l) l.length
def hz : HeadD := ⟨0, 0, ⟨#[]⟩, 0, ⟨#[]⟩⟩
def leavesH (w : Int) (l : List EntryD) : List ByteArray := l.map (leafH w)
theorem bytes_toList {a b : ByteArray} : a.toList = b.toList ↔ a = b := bytes_eq_iff
theorem leafH_size {w : Int} {e : EntryD} (hw : inR w 1 32 = true) (he : entryOk e = true) : (leafH w e).size = w.toNat := by
 rw [(leafH_yes he).1]
 have := leafText_size e
 exact digest_size (by rw [digestOk, hw]; simp [inR]; omega)
end Go.Proofs.YtgeengkdgdjcjaaGreat
