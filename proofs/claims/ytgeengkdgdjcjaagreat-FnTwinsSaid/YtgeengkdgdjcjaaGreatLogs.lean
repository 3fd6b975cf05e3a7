/-
  Logs: No condition.
-/
import Derived.Test.YtgeengkdgdjcjaaGreatAppNew
import Derived.Test.YtgeengkdgdjcjaaGreatLeaf
import Derived.Test.YtgeengkdgdjcjaaGreatBunch
import Derived.Test.YtgeengkdgdjcjaaGreatRets
namespace Go.Proofs.YtgeengkdgdjcjaaGreat
set_option maxHeartbeats 2000000
set_option maxRecDepth 100000
set_option linter.unusedSimpArgs false
open Go.RowKit
set_option linter.unusedVariables false
def ofTopic (t : ByteArray) (e : EntryD) : Bool := e.topic.toList == t.toList
def cntT (l : List EntryD) (t : ByteArray) : Nat := l.countP (ofTopic t)
theorem cntT_le (l : List EntryD) (t : ByteArray) : cntT l t ≤ l.length := List.countP_le_length
theorem cntT_next {l : List EntryD} {t : ByteArray} {k : Nat} {d : EntryD} (hd : l[k]? = some d) : cntT (l.take (k + 1)) t = cntT (l.take k) t + if ofTopic t d then 1 else 0 := by
 obtain ⟨hk, rfl⟩ := List.getElem?_eq_some_iff.1 hd
 rw [List.take_succ_eq_append_getElem hk]
 simp only [cntT, List.countP_append, List.countP_singleton]
theorem entry_at {l : List EntryD} {w : World} {b off : Nat} {k : Nat} {d : EntryD} (hc : ∀ j u, (l.flatMap EntryD.cells)[k * 5 + j]? = some u → w.cell? ⟨b, off + k * 5 + j, none⟩ = some u) (hd : l[k]? = some d) :
 w.cell? ⟨b, off + k * 5, none⟩ = some (.string d.topic) ∧ w.cell? ⟨b, off + k * 5 + 1, none⟩ = some (.int .i64 d.index) ∧ w.cell? ⟨b, off + k * 5 + 2, none⟩ = some (.int .i64 d.time) ∧ w.cell? ⟨b, off + k * 5 + 3, none⟩ = some (.string d.key) ∧ w.cell? ⟨b, off + k * 5 + 4, none⟩ = some (.string d.body) :=
 ⟨hc 0 _ (flat_at _ 5 EntryD.cells_length l k 0 d hd (by omega)), hc 1 _ (flat_at _ 5 EntryD.cells_length l k 1 d hd (by omega)), hc 2 _ (flat_at _ 5 EntryD.cells_length l k 2 d hd (by omega)), hc 3 _ (flat_at _ 5 EntryD.cells_length l k 3 d hd (by omega)), hc 4 _ (flat_at _ 5 EntryD.cells_length l k 4 d hd (by omega))⟩
theorem l09Count_any (A : Option Addr) (c : Nat) (l : List EntryD) (t : ByteArray) (w : World) (hr : ReadsL w w.heap.size EntryD.cells 5 A l) (hl : l.length ≤ 1048576) :
 Calls Tryz.prog 213 #[.slice A l.length c, .string t] w fun e w' => e = .returned (.int .i64 (cntT l t : Int)) ∧ w = w' := by
 go_enter Tryz.func213, Tryz.ntmps213
 go_wp2_with fail
 go_loopw [5, 6] (fun n i wr => ∃ (k : Nat), k ≤ l.length ∧ i = .int .i64 k ∧ n = .int .i64 (cntT (l.take k) t : Int) ∧ w = wr) (fun _ i _ => l.length - (intOf i).toNat)
 case atStart => exact ⟨0, Nat.zero_le _, rfl, rfl, rfl⟩
 case round =>
  obtain ⟨k, hk, rfl, rfl, rfl⟩ := hrel
  by_cases hlt : k < l.length
  case neg =>
   obtain rfl : k = l.length := by omega
   have d1 : decide ((l.length : Int) < (l.length : Int)) = false := by simp
   have E := hU (show cntT (l.take l.length) t = cntT l t by rw [List.take_length])
   go_wp2_with fail
   go_ret
   exact ⟨by rw [E.out]; rfl, rfl⟩
  have d1 : decide ((k : Int) < (l.length : Int)) = true := by rw [decide_eq_true_eq]; omega
  obtain ⟨b, off, rfl, hb, hc⟩ := Reads.at_ hr (k := k) hlt
  obtain ⟨d, hd⟩ : ∃ d, d = l[k] := ⟨_, rfl⟩
  have hdl : l[k]? = some d := by rw [hd]; exact List.getElem?_eq_getElem hlt
  obtain ⟨c0, _⟩ := entry_at hc hdl
  have Hn := hU (cntT_next (t := t) hdl)
  have hcl := cntT_le (l.take k) t
  rw [List.length_take] at hcl
  have hcl2 : cntT (l.take k) t ≤ 1048576 := by omega
  clear hc hd hdl hcl
  cases b1 : (d.topic.toList == t.toList)
  · have E := hU (show cntT (l.take (k + 1)) t = cntT (l.take k) t by rw [Hn.out, ofTopic, b1]; rfl)
    go_wp2_with fail
    go_roundw
    case rel => exact ⟨k + 1, by omega, by go_num, by rw [E.out], trivial⟩
    case measure => simp [intOf]; omega
  · have E := hU (show cntT (l.take (k + 1)) t = cntT (l.take k) t + 1 by rw [Hn.out, ofTopic, b1]; rfl)
    go_wp2_with fail
    go_roundw
    case rel => exact ⟨k + 1, by omega, by go_num, by rw [E.out]; go_num, trivial⟩
    case measure => simp [intOf]; omega
def addNew (l : List EntryD) (e : EntryD) : EntryD := { e with index := (cntT l e.topic : Int) }
theorem l09Add_yes (A : Option Addr) (c : Nat) (l : List EntryD) (d : EntryD) (w : World) (hr : SlF AnyB EntryD.cells 5 w A l c) (hl : l.length < 512) (hd : d.Ok) (hz : d.index = 0) (hn : nameOk d.topic = true) (ho : entryOk d = true) :
 Calls Tryz.prog 135 #[.agg #[.slice A l.length c], .string d.topic, .int .i64 d.time, .string d.key, .string d.body] w fun e w' => ∃ v, e = .returned (.tuple #[.agg #[v], .int .i64 (l.length : Int), .int .i64 0]) ∧ OwnF EntryD.cells 5 56 w w' v (l ++ [addNew l d]) ∧ Ext w w' := by
 obtain ⟨topic, index, time, key, body⟩ := d
 obtain rfl : index = 0 := hz
 simp only at hn ho hd ⊢
 obtain ⟨i0, hi, hz0, hz1, hz2⟩ := info_parts info_entry
 go_enter Tryz.func135, Tryz.ntmps135
 have HR := hU hr; clear hr
 have HD := hU hd
 obtain ⟨z1, _, _, z2, z3⟩ := hd
 simp only at z1 z2 z3
 have he := hU (Ext.new (Ext.new (Below.refl w.heap.size w) (.cells #[.slice A l.length c] 26)) (.cells #[.slice none 0 0] 26))
 have K0 := hU ((Blk.new w 26 #[.slice A l.length c]).alloc (.cells #[.slice none 0 0] 26))
 have k1 := Blk.new (w.alloc (.cells #[.slice A l.length c] 26)) 26 #[.slice none 0 0]
 rw [World.size_alloc] at k1
 have K1 := hU k1; clear k1
 have d5 : decide ((l.length : Int) = 512) = false := by rw [decide_eq_false_iff_not]; omega
 go_wp2_with fail
 obtain ⟨g, hg⟩ : ∃ g, g = w.heap.size := ⟨_, rfl⟩
 rw [← hg] at K0 K1
 rw [← hg]
 have hg0 : w.heap.size ≤ g := by omega
 clear hg
 generalize (w.alloc (.cells #[.slice A l.length c] 26)).alloc (.cells #[.slice none 0 0] 26) = w0 at *
 refine (specNameOk_any topic _ z1).mono ?_
 rintro e w1 ⟨rfl, rfl⟩
 rw [hn]
 go_wp2_with fail
 refine (specEntryOk_any ⟨topic, 0, time, key, body⟩ _ HD.out).mono ?_
 rintro e w2 ⟨rfl, h1⟩
 rw [ho]
 replace he := hU (he.out.next h1); have k0 := K0.out.ext h1; replace K0 := hU k0; replace K1 := hU (K1.out.ext h1)
 clear h1
 obtain ⟨c0, f0⟩ := k0.rules
 go_wp2_with fail
 refine (l09Count_any A c l topic _ (HR.out.ext he.out).reads (by omega)).mono ?_
 rintro e w3 ⟨rfl, rfl⟩
 clear c0 f0
 go_wp2_with fail
 have hk1 := K1.out.lt
 have b0 := Blk.new w2 56 #[.string topic, .int .i64 (cntT l topic : Int), .int .i64 time, .string key, .string body]
 replace he := hU (he.out.new (.cells #[.string topic, .int .i64 (cntT l topic : Int), .int .i64 time, .string key, .string body] 56))
 replace K0 := hU (K0.out.alloc (.cells #[.string topic, .int .i64 (cntT l topic : Int), .int .i64 time, .string key, .string body] 56))
 replace K1 := hU (K1.out.alloc (.cells #[.string topic, .int .i64 (cntT l topic : Int), .int .i64 time, .string key, .string body] 56))
 obtain ⟨q, hq⟩ : ∃ q, q = w2.heap.size := ⟨_, rfl⟩
 rw [← hq] at b0 hk1
 rw [← hq]
 have hgq : g + 1 < q := hk1
 clear hq k0
 generalize w2.alloc (.cells #[.string topic, .int .i64 (cntT l topic : Int), .int .i64 time, .string key, .string body] 56) = w3 at *
 have hq3 : g + 1 < w3.heap.size := Nat.lt_trans hgq b0.lt
 have B0 := hU b0; clear b0
 have F := hU (show ∀ w', StoreS 26 1 (g + 1) w3 w' → w'.cell? ⟨g, 0, none⟩ = some (.slice A l.length c) ∧ (w'.cell? ⟨q, 0, none⟩ = some (.string topic) ∧ w'.cell? ⟨q, 1, none⟩ = some (.int .i64 (cntT l topic : Int)) ∧ w'.cell? ⟨q, 2, none⟩ = some (.int .i64 time) ∧ w'.cell? ⟨q, 3, none⟩ = some (.string key) ∧ w'.cell? ⟨q, 4, none⟩ = some (.string body)) from fun w' h' =>
  have h := h'.1
  ⟨(K0.out.extBut h (by omega)).cell 0, (B0.out.extBut h (by omega)).cell 0, (B0.out.extBut h (by omega)).cell 1, (B0.out.extBut h (by omega)).cell 2, (B0.out.extBut h (by omega)).cell 3, (B0.out.extBut h (by omega)).cell 4⟩)
 refine wp_region_held_drew (S := fun w' => StoreS 26 1 (g + 1) w3 w') (by kernel_rfl) (StoreS.start K1.out rfl) (fun hHeld => ?_)
 refine takeH (i := 1) (oi := _) (v := ?v1) (some 41) rfl rfl (by kernel_rfl) (by kernel_rfl) (by kernel_rfl) (fun _ a b _ e h => by cases a; cases b; cases e; exact h) (Or.inl ⟨by rfl, ?y1⟩) hHeld ?r1
 case y1 => intro w' hS'; obtain ⟨f0, f1⟩ := F.out w' hS'; go_simp; try with_reducible rfl
 (try simp only [Act.put, List.setIfInBounds_toArray, List.set_cons_zero, List.set_cons_succ])
 refine takeH (i := 8) (oi := _) (v := ?v2) (some 48) rfl rfl (by kernel_rfl) (by kernel_rfl) (by kernel_rfl) (fun _ a b _ e h => by cases a; cases b; cases e; exact h) (Or.inl ⟨by rfl, ?y2⟩) hHeld ?r2
 case y2 => intro w' hS'; obtain ⟨f0, f1⟩ := F.out w' hS'; go_simp; try with_reducible rfl
 (try simp only [Act.put, List.setIfInBounds_toArray, List.set_cons_zero, List.set_cons_succ])
 refine takeH (i := 2) (oi := _) (v := ?v3) (some 42) rfl rfl (by kernel_rfl) (by kernel_rfl) (by kernel_rfl) (fun _ a b _ e h => by cases a; cases b; cases e; exact h) (Or.inl ⟨by rfl, ?y3⟩) hHeld ?r3
 case y3 => intro w' hS'; obtain ⟨f0, f1⟩ := F.out w' hS'; go_simp; try with_reducible rfl
 (try simp only [Act.put, List.setIfInBounds_toArray, List.set_cons_zero, List.set_cons_succ])
 refine takeH (i := 4) (oi := _) (v := ?v4) (some 44) rfl rfl (by kernel_rfl) (by kernel_rfl) (by kernel_rfl) (fun _ a b _ e h => by cases a; cases b; cases e; exact h) (Or.inl ⟨by rfl, ?y4⟩) hHeld ?r4
 case y4 => intro w' hS'; obtain ⟨f0, f1⟩ := F.out w' hS'; go_simp; try with_reducible rfl
 (try simp only [Act.put, List.setIfInBounds_toArray, List.set_cons_zero, List.set_cons_succ])
 refine takeH (i := 9) (oi := _) (v := ?v5) (some 49) rfl rfl (by kernel_rfl) (by kernel_rfl) (by kernel_rfl) (fun _ a b _ e h => by cases a; cases b; cases e; exact h) (Or.inl ⟨by rfl, ?y5⟩) hHeld ?r5
 case y5 => intro w' hS'; obtain ⟨f0, f1⟩ := F.out w' hS'; go_simp; try with_reducible rfl
 (try simp only [Act.put, List.setIfInBounds_toArray, List.set_cons_zero, List.set_cons_succ])
 refine takeH (i := 10) (oi := _) (v := ?v6) (some 50) rfl rfl (by kernel_rfl) (by kernel_rfl) (by kernel_rfl) (fun _ a b _ e h => by cases a; cases b; cases e; exact h) (Or.inl ⟨by rfl, ?y6⟩) hHeld ?r6
 case y6 => intro w' hS'; obtain ⟨f0, f1⟩ := F.out w' hS'; go_simp; try with_reducible rfl
 (try simp only [Act.put, List.setIfInBounds_toArray, List.set_cons_zero, List.set_cons_succ])
 refine wpAnyH_bunch [(0, some 40), (3, some 43), (5, some 45)] (fun i v w' => match i with
  | 0 => ∃ K, v = .slice (some ⟨K, 0, none⟩) 0 0 ∧ Blk w' K 56 #[] ∧ w3.heap.size ≤ K
  | 3 => w'.ownsRow w3.heap.size 56 5 v l.length (l.flatMap EntryD.cells)
  | 5 => ∃ K, v = .slice (some ⟨K, 0, none⟩) 1 1 ∧ Blk w' K 56 #[.string topic, .int .i64 (cntT l topic : Int), .int .i64 time, .string key, .string body]
  | _ => True) _ (fun w1 w2 => Ext w1 w2) (n := 5) (by kernel_rfl) (by rfl) (fun _ a b _ e h => by cases a; cases b; cases e; exact h) ?hR hHeld ?hst ?hend
 case hR =>
  intro j v u1 u2 hu hp
  match j, hp with
  | 0, ⟨K, e, h1, h2⟩ => exact ⟨K, e, h1.ext hu, h2⟩
  | 3, h1 => exact ownsRow_ext h1 hu
  | 5, ⟨K, e, h1⟩ => exact ⟨K, e, h1.ext hu⟩
  | 1, _ => trivial
  | 2, _ => trivial
  | 4, _ => trivial
  | n + 6, _ => trivial
 case hst =>
  refine BunchAll.cons [] (o := _) rfl rfl rfl (by kernel_rfl) (fun vals u hv hS K' hK => ?_) (BunchAll.cons [0] (o := _) rfl rfl rfl (by kernel_rfl) (fun vals u hv hS K' hK => ?_) (BunchAll.cons [] (o := _) rfl rfl rfl (by kernel_rfl) (fun vals u hv hS K' hK => ?_) BunchAll.nil))
  · refine ⟨?_⟩
    (try simp only [fillA, Act.put, List.setIfInBounds_toArray, List.set_cons_zero, List.set_cons_succ])
    go_simp
    exact hK.out _ _ ⟨_, rfl, u.heap.size, rfl, Blk.new _ _ _, hS.1.size⟩ (hS.ext (Ext.new (Below.refl _ _) _)) (Ext.new (Below.refl _ _) _)
  · obtain ⟨⟨K, hv0, hb0, hk0⟩, _⟩ := hv
    refine ⟨?_⟩; (try simp only [fillA, Act.put, List.setIfInBounds_toArray, List.set_cons_zero, List.set_cons_succ])
    rw [if_pos (by rfl)]
    refine wp_append_empty (some 43) _ _ 24 (by rfl) (by rfl) w3.heap.size K 56 i0 (.agg #[.string ⟨#[]⟩, .int .i64 0, .int .i64 0, .string ⟨#[]⟩, .string ⟨#[]⟩]) 5 64 Tryz.underlying24 hi hz0 hz1 hz2 rfl (by decide) (by exact hv0) hb0 hk0 (.slice A l.length c) l.length (l.flatMap EntryD.cells) (by rfl) (Reads.src (Reads.below HR.out.reads (Below.trans he.out (ExtBut.lower hS.1 (by omega) he.out.size)))) (entry_cells l) ?_ ?_ (fun v' u2 ho hx => ?_)
    · unfold maxLen; omega
    · omega
    exact hK.out _ _ ⟨_, rfl, ho⟩ (hS.ext hx) hx
  · refine ⟨?_⟩
    (try simp only [fillA, Act.put, List.setIfInBounds_toArray, List.set_cons_zero, List.set_cons_succ])
    go_simp
    exact hK.out _ _ ⟨_, rfl, u.heap.size, rfl, Blk.new _ _ _⟩ (hS.ext (Ext.new (Below.refl _ _) _)) (Ext.new (Below.refl _ _) _)
 intro vals w4 hv hx
 obtain ⟨⟨K0', hv0, _, _⟩, hv3, ⟨K5, hv5, hb5⟩, _⟩ := hv
 (try simp only [fillA, Act.put, List.setIfInBounds_toArray, List.set_cons_zero, List.set_cons_succ])
 have O3 := hU (show w4.ownsRow w3.heap.size 56 5 (vals 3) l.length (l.flatMap EntryD.cells) from hv3)
 rw [hv0, hv5]
 clear hv0 hv5 hv3
 generalize vals 3 = v3 at *
 refine oneH 6 (oi := _) (some 46) (by kernel_rfl) rfl rfl rfl (fun K' hK => ?_)
 refine ⟨?_⟩; rw [if_pos (by rfl)]
 refine wp_append_src (some 46) _ _ 24 (by rfl) (by rfl) w3.heap.size 56 i0 (.agg #[.string ⟨#[]⟩, .int .i64 0, .int .i64 0, .string ⟨#[]⟩, .string ⟨#[]⟩]) 5 64 Tryz.underlying24 hi hz0 hz1 hz2 rfl (by decide) v3 l.length (l.flatMap EntryD.cells) (by rfl) O3.out (.slice (some ⟨K5, 0, none⟩) 1 1) 1 [.string topic, .int .i64 (cntT l topic : Int), .int .i64 time, .string key, .string body] (by rfl) (Blk.src hb5 1 5 1 rfl) (entry_cells [⟨topic, (cntT l topic : Int), time, key, body⟩]) ?_ ?_ ?_ (fun v' u2 ho hgr => ?_)
 · unfold maxLen; omega
 · omega
 · exact hx.1.size
 obtain ⟨A', c', rfl, _⟩ := ownsRow_form ho
 refine hK.out _ _ ⟨_, rfl⟩ (hx.grown hq3 (Nat.le_refl _) O3.out hgr) (fun hx2 => ?_)
 clear hK K' hx hb5 O3 hHeld
 (try simp only [Act.put, List.setIfInBounds_toArray, List.set_cons_zero, List.set_cons_succ])
 have O4 := hU ho; clear ho hgr
 refine takeH (i := 7) (oi := _) (v := .agg #[.slice A' (l.length + 1) c']) (some 47) rfl rfl (by kernel_rfl) (by kernel_rfl) (by kernel_rfl) (fun _ a b _ e h => by cases a; cases b; cases e; exact h) (Or.inl ⟨by rfl, ?y7⟩) hx2 ?r7
 case y7 => intro w' hS'; go_simp; try with_reducible rfl
 (try simp only [Act.put, List.setIfInBounds_toArray, List.set_cons_zero, List.set_cons_succ])
 refine oneH 11 (oi := _) none (by kernel_rfl) rfl rfl rfl (fun K' hK => ?_)
 refine ⟨?_⟩; rw [if_pos (by rfl)]
 refine wp_store_here 26 _ _ (by rfl) (by rfl) (g + 1) 0 [.slice A' (l.length + 1) c'] (by rfl) (by rfl) hx2.there (by kernel_rfl) (by simp; rfl) ?_
 obtain ⟨hx3, b3⟩ := hx2.put [.slice A' (l.length + 1) c'] rfl
 have B3 := hU b3; clear b3
 refine hK.out _ _ ⟨undef, rfl⟩ hx3 (fun hx4 => ?_)
 clear hK K' hx2
 refine takeH (i := 12) (oi := _) (v := .int .i64 (l.length : Int)) (some 11) rfl rfl (by kernel_rfl) (by kernel_rfl) (by kernel_rfl) (fun _ a b _ e h => by cases a; cases b; cases e; exact h) (Or.inl ⟨by rfl, ?y12⟩) hx4 ?r12
 case y12 => intro w' hS'; go_simp; try with_reducible rfl
 (try simp only [Act.put, List.setIfInBounds_toArray, List.set_cons_zero, List.set_cons_succ])
 refine takeH (i := 13) (oi := _) (v := .int .i64 0) (some 12) rfl rfl (by kernel_rfl) (by kernel_rfl) (by kernel_rfl) (fun _ a b _ e h => by cases a; cases b; cases e; exact h) (Or.inl ⟨by rfl, ?y13⟩) hx4 ?r13
 case y13 => intro w' hS'; go_simp; try with_reducible rfl
 (try simp only [Act.put, List.setIfInBounds_toArray, List.set_cons_zero, List.set_cons_succ])
 refine wpAnyH_done (by kernel_rfl) ?_ _
 go_wp2_with fail
 refine ret_ctt (s0 := 10) (s1 := 11) (s2 := 12) (t0 := 26) rfl rfl B3.out Tryz.underlying26 rfl (by kernel_rfl) rfl ?_
 refine ⟨_, rfl, ?_, ?_⟩
 · have h1 := ownsRow_base (ownsRow_far O4.out (grow_setCells (g + 1) [.slice A' (l.length + 1) c'] 0 u2 u2 (World.grownBy.refl _ _)) hq3) (B' := w.heap.size) he.out.size
   unfold OwnF addNew
   rw [List.length_append, List.flatMap_append]
   exact h1
 · exact Below.trans he.out (ExtBut.lower hx4.1 (by omega) he.out.size)
end Go.Proofs.YtgeengkdgdjcjaaGreat
