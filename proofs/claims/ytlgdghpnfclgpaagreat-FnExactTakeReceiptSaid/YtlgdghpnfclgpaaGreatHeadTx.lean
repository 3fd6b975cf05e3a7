/-
  TextsP; HeadTx: No condition.
-/
import Derived.Test.YtlgdghpnfclgpaaGreatBroker1
import Derived.Test.YtlgdghpnfclgpaaGreatHashes
import Derived.Test.YtlgdghpnfclgpaaGreatMapRec
import Derived.Test.YtlgdghpnfclgpaaGreatBunch
namespace Go.Proofs.YtlgdghpnfclgpaaGreat
set_option linter.unusedSimpArgs false
open Go.RowKit
set_option linter.unusedVariables false
def textsE (b : BrokerD) : List ByteArray := b.log.entries.map leafText
def textsH (b : BrokerD) : List ByteArray := (b.heads.drop 1).map (headText b.width)
def textsR (b : BrokerD) : List ByteArray := b.receipts.map receiptText
def fileT (b : BrokerD) (f : Nat) : List ByteArray := (if f = 0 then textsE b else []) ++ (if f = 1 then textsH b else []) ++ (if f = 2 then textsR b else [])
theorem fileT_0 (b : BrokerD) : fileT b 0 = textsE b := by simp [fileT]
theorem fileT_1 (b : BrokerD) : fileT b 1 = textsH b := by simp [fileT]
theorem fileT_2 (b : BrokerD) : fileT b 2 = textsR b := by simp [fileT]
def offT : List ByteArray → Nat
 | [] => 0
 | t :: r => (6 + t.size) + offT r
theorem offT_append : ∀ (a b : List ByteArray), offT (a ++ b) = offT a + offT b
 | [], b => by simp [offT]
 | t :: r, b => by simp only [List.cons_append, offT, offT_append r b]; omega
theorem offT_le {m : Nat} : ∀ {l : List ByteArray}, (∀ t ∈ l, t.size ≤ m) → offT l ≤ l.length * (m + 6)
 | [], _ => by simp [offT]
 | t :: r, h => by
   have h1 := h t (by simp)
   have h2 := offT_le (l := r) (m := m) (fun x hx => h x (by simp [hx]))
   simp only [offT, List.length_cons, Nat.succ_mul]
   omega
theorem offT_take {l : List ByteArray} {k : Nat} {t : ByteArray} (h : l[k]? = some t) : offT (l.take (k + 1)) = offT (l.take k) + (6 + t.size) := by
 obtain ⟨h1, h2⟩ := List.getElem?_eq_some_iff.1 h
 rw [List.take_succ_eq_append_getElem h1, offT_append, h2]
 simp [offT]
theorem framesT_off : ∀ {l : List ByteArray}, (∀ t ∈ l, fits1 t = true) → (framesT l).size = offT l
 | [], _ => rfl
 | t :: r, h => by
   have h1 := frameB_size (h t (by simp))
   have h2 := framesT_off (l := r) (fun x hx => h x (by simp [hx]))
   simp only [framesT, ByteArray.size_append, offT, h1, h2]
   omega
theorem leafText_fits {d : EntryD} (h : entryOk d = true) : 1 ≤ (leafText d).size ∧ (leafText d).size ≤ 500 := by
 have := entryOk_bounds h
 unfold leafText
 rw [if_pos h, leafT]
 have e : (lowB d.time.toNat 4).size = 4 := rfl
 have e1 : (⟨#[69]⟩ : ByteArray).size = 1 := rfl
 have o1 : ∀ k : Int, (octB k).size = 1 := fun _ => rfl
 simp only [ByteArray.size_append, o1, e, e1]
 omega
theorem receiptText_fits {d : ReceiptD} (h : receiptOk d = true) : 1 ≤ (receiptText d).size ∧ (receiptText d).size ≤ 500 := by
 have h' := h
 simp only [receiptOk, Bool.and_eq_true] at h'
 have s1 := nameOk_size h'.1.1
 have s2 := nameOk_size h'.1.2
 unfold receiptText
 rw [if_pos h, receiptT]
 have e1 : (⟨#[82]⟩ : ByteArray).size = 1 := rfl
 have o1 : ∀ k : Int, (octB k).size = 1 := fun _ => rfl
 simp only [ByteArray.size_append, o1, e1]
 omega
theorem headText_fits {n : Int} {d : HeadD} (h : headOk n d = true) : 1 ≤ (headText n d).size ∧ (headText n d).size ≤ 500 := by
 have := headOk_bounds h
 unfold headText
 rw [if_pos h, headT]
 simp only [ByteArray.size_append, lowB_size]
 omega
theorem fits_of {t : ByteArray} (h : 1 ≤ t.size ∧ t.size ≤ 500) : fits1 t = true := by
 unfold fits1 inR
 simp only [Bool.and_eq_true, decide_eq_true_eq]
 omega
theorem frames_ok {l : List ByteArray} (hl : l.length ≤ 512) (h : ∀ t ∈ l, 1 ≤ t.size ∧ t.size ≤ 500) : framesOk l = true ∧ (framesOut l).size = offT l := by
 have h1 : ∀ t ∈ l, fits1 t = true := fun t ht => fits_of (h t ht)
 have h2 := framesT_off h1
 have h3 := offT_le (l := l) (m := 500) (fun t ht => (h t ht).2)
 have h4 : framesOk l = true := framesOk_yes (by omega) h1 (by rw [h2]; omega)
 exact ⟨h4, by rw [framesOut_yes h4, h2]⟩
theorem file_fits {b : BrokerD} (hE : ∀ e ∈ b.log.entries, entryOk e = true) (hR : ∀ r ∈ b.receipts, receiptOk r = true) (hH : ∀ h ∈ b.heads, headOk b.width h = true) (f : Nat) : ∀ t ∈ fileT b f, 1 ≤ t.size ∧ t.size ≤ 500 := by
 intro t ht
 unfold fileT at ht
 rw [List.mem_append, List.mem_append] at ht
 rcases ht with (ht | ht) | ht
 · split at ht
   · obtain ⟨e, he, rfl⟩ := List.mem_map.1 ht; exact leafText_fits (hE e he)
   · simp at ht
 · split at ht
   · obtain ⟨e, he, rfl⟩ := List.mem_map.1 ht; exact headText_fits (hH e (List.mem_of_mem_drop he))
   · simp at ht
 · split at ht
   · obtain ⟨e, he, rfl⟩ := List.mem_map.1 ht; exact receiptText_fits (hR e he)
   · simp at ht
theorem file_len {b : BrokerD} (h0 : b.log.entries.length ≤ 512) (h1 : b.receipts.length ≤ 512) (h2 : b.heads.length ≤ 400) (f : Nat) : (fileT b f).length ≤ 512 := by
 unfold fileT
 by_cases f0 : f = 0
 · subst f0; simp [textsE]; omega
 by_cases f1 : f = 1
 · subst f1; simp [textsH]; omega
 by_cases f2 : f = 2
 · subst f2; simp [textsR]; omega
 simp [f0, f1, f2]
theorem broker_parts {b : BrokerD} (h : brokerB b = true) : inR b.width 1 32 = true ∧ b.log.entries.length ≤ 512 ∧ (∀ e ∈ b.log.entries, entryOk e = true) ∧ b.receipts.length ≤ 512 ∧ (∀ r ∈ b.receipts, receiptOk r = true) ∧ 0 < b.heads.length ∧ b.heads.length ≤ 400 ∧ (∀ h ∈ b.heads, headOk b.width h = true) := by
 rw [brokerB, Bool.and_eq_true] at h
 have p := h.1
 simp only [brkParts, Bool.and_eq_true, decide_eq_true_eq] at p
 obtain ⟨⟨⟨⟨⟨⟨⟨hw, hlog⟩, hrec⟩, h0⟩, hh⟩, hz0⟩, hsl⟩, hrd⟩ := p
 have l3 := headsOk_all hh
 refine ⟨hw, (logOk_all hlog).1, (logOk_all hlog).2, (recsOk_all hrec).1, (recsOk_all hrec).2, h0, l3.2.1, fun x hx => ?_⟩
 obtain ⟨j, hj, e⟩ := List.mem_iff_getElem.1 hx
 exact (headAt_ok (List.getElem?_eq_some_iff.2 ⟨hj, e⟩) (l3.2.2 j hj)).1
def writeW (b : BrokerD) (f : Nat) (t : ByteArray) : WriteD := ⟨(f : Int), ((offT (fileT b f) : Nat) : Int), frameOut t⟩
set_option maxHeartbeats 2000000
set_option maxRecDepth 100000
theorem implHeadText_any (n : Int) (d : HeadD) (w : World) : Calls Tryz.prog 165 #[.int .i64 n, .agg #[.int .i64 d.number, .int .i64 d.size, .string d.root, .int .i64 d.taken, .string d.takenRoot]] w fun e w' => e = .returned (.tuple #[.string (headText n d), .bool (headOk n d)]) ∧ Ext w w' := by
 have B0 := Blk.new w 55 #[.int .i64 d.number, .int .i64 d.size, .string d.root, .int .i64 d.taken, .string d.takenRoot]
 have he := Ext.new (Below.refl w.heap.size w) (.cells #[.int .i64 d.number, .int .i64 d.size, .string d.root, .int .i64 d.taken, .string d.takenRoot] 55)
 cases b : headOk n d
 · have Ht := hU (show headText n d = ⟨#[]⟩ by simp [headText, b])
   have He := hU he
   clear B0 he
   go_enter Tryz.func165, Tryz.ntmps165
   go_wp2_with fail
   refine (implHeadOk_any n d _).mono ?_
   rintro e w1 ⟨rfl, h1⟩
   have he := He.out.next h1
   rw [b]
   go_wp2_with fail
   go_ret2
   exact ⟨by rw [Ht.out]; rfl, he⟩
 · obtain ⟨z0, z1, z2, z3, z4, z5, z6, z7, z8, z9⟩ := headOk_bounds b
   obtain ⟨p1, hp1⟩ : ∃ p1, p1 = octB (d.number / 256) ++ octB d.number := ⟨_, rfl⟩
   obtain ⟨p2, hp2⟩ : ∃ p2, p2 = octB (d.size / 256) ++ octB d.size := ⟨_, rfl⟩
   obtain ⟨p3, hp3⟩ : ∃ p3, p3 = octB (d.taken / 256) ++ octB d.taken := ⟨_, rfl⟩
   have C1 := hU (show ∀ W, Calls Tryz.prog 209 #[.int .i64 d.number] W fun e w' => e = .returned (.string p1) ∧ Ext W w' from fun W => by rw [hp1]; exact pair_any _ W (by omega) (by omega))
   have C2 := hU (show ∀ W, Calls Tryz.prog 209 #[.int .i64 d.size] W fun e w' => e = .returned (.string p2) ∧ Ext W w' from fun W => by rw [hp2]; exact pair_any _ W (by omega) (by omega))
   have C3 := hU (show ∀ W, Calls Tryz.prog 209 #[.int .i64 d.taken] W fun e w' => e = .returned (.string p3) ∧ Ext W w' from fun W => by rw [hp3]; exact pair_any _ W (by omega) (by omega))
   have low : ∀ k : Int, 0 ≤ k → lowB k.toNat 2 = octB (k / 256) ++ octB k := fun k hk => by
    rw [lowB_two, Int.toNat_of_nonneg hk]
   have Ht := hU (show headText n d = p1 ++ p2 ++ d.root ++ p3 ++ d.takenRoot by rw [headText, if_pos b, headT, low _ z2, low _ z4, low _ z7, hp1, hp2, hp3])
   have y1 : p1.size = 2 := by rw [hp1]; rfl
   have y2 : p2.size = 2 := by rw [hp2]; rfl
   have y3 : p3.size = 2 := by rw [hp3]; rfl
   have n1 : ¬ 9223372036854775807 < p1.size + p2.size := by omega
   have n2 : ¬ 9223372036854775807 < p1.size + p2.size + d.root.size := by omega
   have n3 : ¬ 9223372036854775807 < p1.size + p2.size + d.root.size + p3.size := by omega
   have n4 : ¬ 9223372036854775807 < p1.size + p2.size + d.root.size + p3.size + d.takenRoot.size := by omega
   clear z0 z1 z2 z3 z4 z5 z6 z7 z8 z9 hp1 hp2 hp3 low y1 y2 y3
   go_enter Tryz.func165, Tryz.ntmps165
   go_wp2_with fail
   obtain ⟨g, hg⟩ : ∃ g, g = w.heap.size := ⟨_, rfl⟩
   rw [← hg] at B0
   rw [← hg]
   clear hg
   refine (implHeadOk_any n d _).mono ?_
   rintro e w1 ⟨rfl, h1⟩
   replace he := he.next h1
   replace B0 := B0.ext h1
   rw [b]
   clear h1
   go_upto_region 3 with fail
   refine wp_region_held_drew (S := fun w' => Blk w' g 55 #[.int .i64 d.number, .int .i64 d.size, .string d.root, .int .i64 d.taken, .string d.takenRoot] ∧ Ext w w') (by kernel_rfl) ⟨B0.drew, he.drew⟩ (fun hH => ?_)
   clear B0 he
   refine takeQ 0 (.pointer (some ⟨g, 0, none⟩)) (some 10) rfl rfl (by kernel_rfl) (Or.inl ⟨by rfl, ?yh1⟩) hH ?rh1
   case yh1 => intro w' hS'; go_simp; try with_reducible rfl
   (try simp only [Act.put, pz1, pz2, pz3])
   refine takeQ 1 (.int .i64 d.number) (some 11) rfl rfl (by kernel_rfl) (Or.inl ⟨by rfl, ?yh2⟩) hH ?rh2
   case yh2 => intro w' hS'; have A0 := hS'.1; obtain ⟨r0, f0⟩ := A0.rules; go_simp; try with_reducible rfl
   (try simp only [Act.put, pz1, pz2, pz3])
   refine takeQ 3 (.pointer (some ⟨g, 1, none⟩)) (some 13) rfl rfl (by kernel_rfl) (Or.inl ⟨by rfl, ?yh3⟩) hH ?rh3
   case yh3 => intro w' hS'; go_simp; try with_reducible rfl
   (try simp only [Act.put, pz1, pz2, pz3])
   refine takeQ 4 (.int .i64 d.size) (some 14) rfl rfl (by kernel_rfl) (Or.inl ⟨by rfl, ?yh4⟩) hH ?rh4
   case yh4 => intro w' hS'; have A0 := hS'.1; obtain ⟨r0, f0⟩ := A0.rules; go_simp; try with_reducible rfl
   (try simp only [Act.put, pz1, pz2, pz3])
   refine takeQ 7 (.pointer (some ⟨g, 2, none⟩)) (some 17) rfl rfl (by kernel_rfl) (Or.inl ⟨by rfl, ?yh5⟩) hH ?rh5
   case yh5 => intro w' hS'; go_simp; try with_reducible rfl
   (try simp only [Act.put, pz1, pz2, pz3])
   refine takeQ 8 (.string d.root) (some 18) rfl rfl (by kernel_rfl) (Or.inl ⟨by rfl, ?yh6⟩) hH ?rh6
   case yh6 => intro w' hS'; have A0 := hS'.1; obtain ⟨r0, f0⟩ := A0.rules; go_simp; try with_reducible rfl
   (try simp only [Act.put, pz1, pz2, pz3])
   refine takeQ 10 (.pointer (some ⟨g, 3, none⟩)) (some 20) rfl rfl (by kernel_rfl) (Or.inl ⟨by rfl, ?yh7⟩) hH ?rh7
   case yh7 => intro w' hS'; go_simp; try with_reducible rfl
   (try simp only [Act.put, pz1, pz2, pz3])
   refine takeQ 11 (.int .i64 d.taken) (some 21) rfl rfl (by kernel_rfl) (Or.inl ⟨by rfl, ?yh8⟩) hH ?rh8
   case yh8 => intro w' hS'; have A0 := hS'.1; obtain ⟨r0, f0⟩ := A0.rules; go_simp; try with_reducible rfl
   (try simp only [Act.put, pz1, pz2, pz3])
   refine takeQ 14 (.pointer (some ⟨g, 4, none⟩)) (some 24) rfl rfl (by kernel_rfl) (Or.inl ⟨by rfl, ?yh9⟩) hH ?rh9
   case yh9 => intro w' hS'; go_simp; try with_reducible rfl
   (try simp only [Act.put, pz1, pz2, pz3])
   refine takeQ 15 (.string d.takenRoot) (some 25) rfl rfl (by kernel_rfl) (Or.inl ⟨by rfl, ?yh10⟩) hH ?rh10
   case yh10 => intro w' hS'; have A0 := hS'.1; obtain ⟨r0, f0⟩ := A0.rules; go_simp; try with_reducible rfl
   (try simp only [Act.put, pz1, pz2, pz3])
   refine oneH 2 (oi := _) (some 12) (by kernel_rfl) rfl rfl rfl (fun K' hK => ?_)
   refine ⟨?_⟩
   rw [if_pos (by rfl)]
   go_simp
   refine (C1.out _).mono ?_
   rintro e w2 ⟨rfl, h1⟩
   refine hK.out _ _ ⟨_, rfl⟩ (⟨hH.1.ext h1, hH.2.next h1⟩) (fun hH2 => ?_)
   clear hK K' hH h1
   have hH := hH2
   clear hH2
   (try simp only [fillA, Act.put, pz1, pz2, pz3])
   refine oneH 5 (oi := _) (some 15) (by kernel_rfl) rfl rfl rfl (fun K' hK => ?_)
   refine ⟨?_⟩
   rw [if_pos (by rfl)]
   go_simp
   refine (C2.out _).mono ?_
   rintro e w2 ⟨rfl, h1⟩
   refine hK.out _ _ ⟨_, rfl⟩ (⟨hH.1.ext h1, hH.2.next h1⟩) (fun hH2 => ?_)
   clear hK K' hH h1
   have hH := hH2
   clear hH2
   (try simp only [fillA, Act.put, pz1, pz2, pz3])
   refine takeQ 6 (.string (p1 ++ p2)) (some 16) rfl rfl (by kernel_rfl) (Or.inl ⟨by rfl, ?yh11⟩) hH ?rh11
   case yh11 => intro w' hS'; have A0 := hS'.1; obtain ⟨r0, f0⟩ := A0.rules; go_simp; try with_reducible rfl
   (try simp only [Act.put, pz1, pz2, pz3])
   refine takeQ 9 (.string (p1 ++ p2 ++ d.root)) (some 19) rfl rfl (by kernel_rfl) (Or.inl ⟨by rfl, ?yh12⟩) hH ?rh12
   case yh12 => intro w' hS'; have A0 := hS'.1; obtain ⟨r0, f0⟩ := A0.rules; go_simp; try with_reducible rfl
   (try simp only [Act.put, pz1, pz2, pz3])
   refine oneH 12 (oi := _) (some 22) (by kernel_rfl) rfl rfl rfl (fun K' hK => ?_)
   refine ⟨?_⟩
   rw [if_pos (by rfl)]
   go_simp
   refine (C3.out _).mono ?_
   rintro e w2 ⟨rfl, h1⟩
   refine hK.out _ _ ⟨_, rfl⟩ (⟨hH.1.ext h1, hH.2.next h1⟩) (fun hH2 => ?_)
   clear hK K' hH h1
   have hH := hH2
   clear hH2
   (try simp only [fillA, Act.put, pz1, pz2, pz3])
   refine takeQ 13 (.string (p1 ++ p2 ++ d.root ++ p3)) (some 23) rfl rfl (by kernel_rfl) (Or.inl ⟨by rfl, ?yh13⟩) hH ?rh13
   case yh13 => intro w' hS'; have A0 := hS'.1; obtain ⟨r0, f0⟩ := A0.rules; go_simp; try with_reducible rfl
   (try simp only [Act.put, pz1, pz2, pz3])
   refine takeQ 16 (.string (p1 ++ p2 ++ d.root ++ p3 ++ d.takenRoot)) (some 26) rfl rfl (by kernel_rfl) (Or.inl ⟨by rfl, ?yh14⟩) hH ?rh14
   case yh14 => intro w' hS'; have A0 := hS'.1; obtain ⟨r0, f0⟩ := A0.rules; go_simp; try with_reducible rfl
   (try simp only [Act.put, pz1, pz2, pz3])
   refine takeQ 17 (.string (p1 ++ p2 ++ d.root ++ p3 ++ d.takenRoot)) (some 4) rfl rfl (by kernel_rfl) (Or.inl ⟨by rfl, ?yh15⟩) hH ?rh15
   case yh15 => intro w' hS'; have A0 := hS'.1; obtain ⟨r0, f0⟩ := A0.rules; go_simp; try with_reducible rfl
   (try simp only [Act.put, pz1, pz2, pz3])
   refine takeQ 18 (.bool true) (some 5) rfl rfl (by kernel_rfl) (Or.inl ⟨by rfl, ?yh16⟩) hH ?rh16
   case yh16 => intro w' hS'; go_simp; try with_reducible rfl
   (try simp only [Act.put, pz1, pz2, pz3])
   have he := hH.2
   clear hH n1 n2 n3 n4
   refine wpAnyH_done (by kernel_rfl) ?_ _
   go_wp2_with fail
   go_ret2
   exact ⟨by rw [Ht.out]; rfl, he⟩
end Go.Proofs.YtlgdghpnfclgpaaGreat
