/-
  SameB; Reopen0; HeadRead: No condition.
-/
import Derived.Test.YtgeengkdgdjcjaaGreatBroker1
import Derived.Test.YtgeengkdgdjcjaaGreatBunch
import Derived.BigQuiet
import Derived.Test.YtgeengkdgdjcjaaGreatStoreL
import Derived.Test.YtgeengkdgdjcjaaGreatHashes
import Derived.Test.YtgeengkdgdjcjaaGreatReadRec
import Derived.Test.YtgeengkdgdjcjaaGreatFramesLaw
import Derived.Test.YtgeengkdgdjcjaaGreatHeadOps
import Derived.Test.YtgeengkdgdjcjaaGreatReader
namespace Go.Proofs.YtgeengkdgdjcjaaGreat
set_option maxHeartbeats 2000000
set_option maxRecDepth 100000
set_option linter.unusedSimpArgs false
open Go.RowKit
set_option linter.unusedVariables false
theorem peaksB_len {a b : List ByteArray} (h : a.length ≠ b.length) : peaksB a b = false := by
 cases e : peaksB a b
 · rfl
 · exact absurd (congrArg List.length (peaksB_iff.1 e)) h
theorem peaksB_at {a b : List ByteArray} {k : Nat} {x y : ByteArray} (ha : a[k]? = some x) (hb : b[k]? = some y) (h : (x.toList == y.toList) = false) : peaksB a b = false := by
 cases e : peaksB a b
 · rfl
 · have := peaksB_iff.1 e
   subst this
   rw [ha] at hb
   cases hb
   simp at h
theorem peaksB_all {a b : List ByteArray} (hl : a.length = b.length) (h : ∀ k x y, k < a.length → a[k]? = some x → b[k]? = some y → (x.toList == y.toList) = true) : peaksB a b = true := by
 rw [peaksB_iff]
 apply List.ext_getElem hl
 intro k h1 h2
 have := h k _ _ h1 (List.getElem?_eq_getElem h1) (List.getElem?_eq_getElem h2)
 exact bytes_toList.1 (by simpa using this)
theorem texts_cell {w : World} {B : Nat} {A : Option Addr} {l : List ByteArray} (hr : ReadsL w B sone 1 A l) {k : Nat} {x : ByteArray} (hx : l[k]? = some x) : ∃ b off, A = some ⟨b, off, none⟩ ∧ b < B ∧ w.cell? ⟨b, off + k, none⟩ = some (.string x) := by
 obtain ⟨b, off, e, hb, hc⟩ := Reads.at_ hr (k := k) (List.getElem?_eq_some_iff.1 hx).1
 have := hc 0 _ (flat_at _ 1 sone_length l k 0 x hx (by omega))
 rw [Nat.add_zero, Nat.mul_one] at this
 exact ⟨b, off, e, hb, this⟩
theorem slicesEqual_any (A A' : Option Addr) (c c' : Nat) (a b : List ByteArray) (w : World) (ha : ReadsL w w.heap.size sone 1 A a) (hb : ReadsL w w.heap.size sone 1 A' b) (hla : a.length ≤ 1048576) (hlb : b.length ≤ 1048576) :
 Calls Tryz.prog 245 #[.slice A a.length c, .slice A' b.length c'] w fun e w' => e = .returned (.bool (peaksB a b)) ∧ Ext w w' := by
 obtain ⟨fin, hfin⟩ : ∃ fin, fin = peaksB a b := ⟨_, rfl⟩
 rw [← hfin]
 by_cases hl : a.length = b.length
 case neg =>
  have E := hU (show fin = false by rw [hfin]; exact peaksB_len hl)
  have hl2 : ¬ ((a.length : Int) = (b.length : Int)) := by omega
  clear hfin
  go_enter Tryz.func245, Tryz.ntmps245
  go_wp2_with fail
  go_ret
  exact ⟨ret_bool E.out.symm, Below.refl w.heap.size w⟩
 have F := hU hfin
 obtain ⟨n, hn⟩ : ∃ n, n = a.length := ⟨_, rfl⟩
 have hn2 : b.length = n := by omega
 rw [← hn] at hla
 rw [← hn, hn2]
 have HN := hU hn; have HN2 := hU hn2
 clear hfin hl hn hn2 hlb
 go_enter Tryz.func245, Tryz.ntmps245
 go_wp2_with fail
 go_loopw [13] (fun i wr => ∃ k : Nat, k ≤ n ∧ i = .int .i64 k ∧ (∀ j x y, j < k → a[j]? = some x → b[j]? = some y → (x.toList == y.toList) = true) ∧ Ext w wr) (fun i _ => n - (intOf i).toNat)
 case atStart => exact ⟨0, Nat.zero_le _, rfl, fun j _ _ h => absurd h (Nat.not_lt_zero j), Below.refl w.heap.size w⟩
 case round =>
  obtain ⟨k, hk, rfl, hi, he⟩ := hrel
  have Hi := hU hi
  clear hi
  by_cases hlt : k < n
  case neg =>
   have E := hU (show fin = true by rw [F.out]; exact peaksB_all (by rw [← HN.out, HN2.out]) (fun j x y hj => Hi.out j x y (by have := HN.out; omega)))
   go_wp2_with fail
   go_ret
   exact ⟨ret_bool E.out.symm, he⟩
  obtain ⟨x, hx⟩ : ∃ x, a[k]? = some x := ⟨a[k]'(by have := HN.out; omega), List.getElem?_eq_getElem (by have := HN.out; omega)⟩
  obtain ⟨y, hy⟩ : ∃ y, b[k]? = some y := ⟨b[k]'(by have := HN2.out; omega), List.getElem?_eq_getElem (by have := HN2.out; omega)⟩
  obtain ⟨b1, o1, rfl, hb1, c1⟩ := texts_cell (ha.ext he) hx
  obtain ⟨b2, o2, rfl, hb2, c2⟩ := texts_cell (hb.ext he) hy
  have X := hU hx; have Y := hU hy
  clear hx hy ha hb
  cases q : (x.toList == y.toList)
  · have E := hU (show fin = false by rw [F.out]; exact peaksB_at X.out Y.out q)
    have q2 := nes_of_beq q
    go_wp2_with fail
    go_quiet (fail)
    go_wp2_with fail
    go_ret
    exact ⟨ret_bool E.out.symm, he.drewN _⟩
  · have E := hU (show ∀ j x y, j < k + 1 → a[j]? = some x → b[j]? = some y → (x.toList == y.toList) = true from fun j x' y' hj hx' hy' => by
     rcases Nat.lt_or_ge j k with h | h
     · exact Hi.out j x' y' h hx' hy'
     · obtain rfl : j = k := by omega
       have e1 := X.out.symm.trans hx'
       have e2 := Y.out.symm.trans hy'
       cases e1; cases e2; exact q)
    have q2 := nes_of_beq q
    go_wp2_with fail
    go_quiet (fail)
    go_wp2_with fail
    go_roundw
    case rel => exact ⟨k + 1, by omega, by go_num, E.out, he.drewN _⟩
    case measure => simp [intOf]; omega
set_option maxHeartbeats 4000000
theorem info_receipt : (Tryz.prog.info? 58).map (fun i => (i.zero, i.size, i.bytes)) = some (some (.agg #[.string ⟨#[]⟩, .string ⟨#[]⟩, .int .i64 0]), 3, 40) := by kernel_rfl
theorem receiptsOf_any (A : Option Addr) (c : Nat) (l : List ByteArray) (w : World) (hr : ReadsL w w.heap.size sone 1 A l) (hl : l.length ≤ 1048576) (hsz : ∀ x ∈ l, x.size ≤ 1099511627776) :
 Calls Tryz.prog 58 #[.slice A l.length c] w fun e w' => Ext w w' ∧ ((l.all rrImpl = false ∧ e = .returned (.tuple #[.slice none 0 0, .bool false])) ∨ (l.all rrImpl = true ∧ ∃ v, e = .returned (.tuple #[v, .bool true]) ∧ w'.ownsRow w.heap.size 58 3 v l.length ((l.map rrD).flatMap ReceiptD.cells))) := by
 obtain ⟨i0, hi, hz0, hz1, hz2⟩ := info_parts info_receipt
 have HR := hU hr; have Hsz := hU hsz
 clear hr hsz
 go_enter Tryz.func58, Tryz.ntmps58
 go_wp2_with fail
 go_loopw [4, 11] (fun v i wr => ∃ k : Nat, k ≤ l.length ∧ i = .int .i64 k ∧ (∀ x ∈ l.take k, rrImpl x = true) ∧ wr.ownsRow w.heap.size 58 3 v k (((l.take k).map rrD).flatMap ReceiptD.cells) ∧ Ext w wr) (fun _ i _ => l.length - (intOf i).toNat)
 case atStart => exact ⟨0, Nat.zero_le _, rfl, by simp, World.ownsRow_nil _ _ _ _, Below.refl w.heap.size w⟩
 case round =>
  obtain ⟨k, hk, rfl, hall, hown, he⟩ := hrel
  obtain ⟨V, cv, rfl, hnc⟩ := ownsRow_form hown
  have KO := hU hown; have HA := hU hall
  clear hown hall
  by_cases hlt : k < l.length
  case neg =>
   obtain rfl : k = l.length := by omega
   have E := hU (show l.all rrImpl = true by rw [List.all_eq_true]; have := HA.out; rwa [List.take_length] at this)
   have KO2 := hU (show _ from by have := KO.out; rwa [List.take_length] at this)
   go_wp2_with fail
   go_ret2
   exact ⟨he, Or.inr ⟨E.out, _, rfl, KO2.out⟩⟩
  obtain ⟨x, hx⟩ : ∃ x, l[k]? = some x := ⟨l[k], List.getElem?_eq_getElem hlt⟩
  obtain ⟨b, off, rfl, hb, c0⟩ := texts_cell (HR.out.ext he) hx
  have hxs := Hsz.out x (List.mem_of_getElem? hx)
  have X := hU hx
  clear hx
  go_wp2_with fail
  refine (ReadReceipt_any x _ hxs).mono ?_
  rintro e w1 ⟨rfl, h1⟩
  replace he := he.next h1; replace KO := hU (ownsRow_ext KO.out h1)
  clear h1 c0
  cases p1 : rrImpl x
  · have E := hU (show l.all rrImpl = false by rw [List.all_eq_false]; exact ⟨x, List.mem_of_getElem? X.out, by rw [p1]; simp⟩)
    simp only [rrRes, ReceiptD.cells, Bool.false_eq_true, if_false]
    go_wp2_with fail
    go_ret2
    exact ⟨he.new _, Or.inl ⟨E.out, rfl⟩⟩
  obtain ⟨d, hd⟩ : ∃ d, d = rrD x := ⟨_, rfl⟩
  rw [← hd]
  have HD := hU hd
  clear hd
  simp only [rrRes, ReceiptD.cells, if_true]
  go_upto_region 6 with fail
  have kd := Blk.new w1 58 #[.string d.reader, .string d.topic, .int .i64 d.index]
  have hx1 := Ext.new (Below.refl w1.heap.size w1) (.cells #[.string d.reader, .string d.topic, .int .i64 d.index] 58)
  replace he := he.next hx1; replace KO := hU (ownsRow_ext KO.out hx1)
  obtain ⟨q, hq⟩ : ∃ q, q = w1.heap.size := ⟨_, rfl⟩
  rw [← hq] at kd
  rw [← hq]
  have hqw := kd.lt
  have hs1 := hq
  clear hq hx1
  obtain ⟨w2, hw2⟩ : ∃ w2, w2 = w1.alloc (.cells #[.string d.reader, .string d.topic, .int .i64 d.index] 58) := ⟨_, rfl⟩
  rw [← hw2] at kd he KO hqw
  have hs2 : w2.heap.size = q + 1 := by rw [hw2, World.size_alloc, hs1]
  rw [← hw2]
  have HS2 := hU hs2
  clear hw2 hs1 hs2
  obtain ⟨rq, fq⟩ := kd.rules
  have hws := he.size
  go_wp2_with (at_builtin; refine wpList_append_moved _ rfl _ _ 27 rfl w.heap.size 58 i0 (.agg #[.string ⟨#[]⟩, .string ⟨#[]⟩, .int .i64 0]) 3 40 Tryz.underlying27 hi hz0 hz1 hz2 rfl (by decide) _ _ _ rfl (KO.out.alloc _) ⟨w2.heap.size, 0, none⟩ 1 1 (#[.string d.reader, .string d.topic, .int .i64 d.index] : Array Value).toList rfl rfl ?c1 ?c2 ?c3 ?c4 ?c5 ?_)
  case c2 => exact ⟨rfl, rfl, rfl⟩
  case c3 => unfold maxLen; omega
  case c4 => omega
  case c5 => simp; omega
  intro v' w3 hown' hfrm hmv
  have L0 := hU KO.out.lt
  have he2 : Ext w w3 := hfrm.toExt (he.new _) (fun y hy e => by have := (L0.out _ e).1; omega)
  obtain ⟨hkl, hkd⟩ := List.getElem?_eq_some_iff.1 X.out
  have e2 : ((l.take k).map rrD).flatMap ReceiptD.cells ++ ReceiptD.cells d = ((l.take (k + 1)).map rrD).flatMap ReceiptD.cells := by rw [List.take_succ_eq_append_getElem hkl, hkd, HD.out]; simp
  have O2 := hU (show w3.ownsRow w.heap.size 58 3 v' (k + 1) (((l.take (k + 1)).map rrD).flatMap ReceiptD.cells) by rw [← e2, List.map_take]; exact hown')
  have HA2 := hU (show ∀ y ∈ l.take (k + 1), rrImpl y = true from fun y hy => by
   rw [List.take_succ_eq_append_getElem hkl, List.mem_append] at hy
   rcases hy with hy | hy
   · exact HA.out y hy
   · obtain rfl := List.mem_singleton.1 hy
     rw [hkd]; exact p1)
  clear hown' hfrm hmv L0 hkd e2 KO he rq fq p1
  go_wp2_with fail
  go_roundw
  case rel => exact ⟨k + 1, by omega, by go_num, HA2.out, O2.out, he2⟩
  case measure => simp [intOf]; omega
theorem entriesOf_any (A : Option Addr) (c : Nat) (l : List ByteArray) (w : World) (hr : ReadsL w w.heap.size sone 1 A l) (hl : l.length ≤ 1048576) (hsz : ∀ x ∈ l, x.size ≤ 1099511627776) :
 Calls Tryz.prog 56 #[.slice A l.length c] w fun e w' => Ext w w' ∧ ((l.all rlImpl = false ∧ e = .returned (.tuple #[.slice none 0 0, .bool false])) ∨ (l.all rlImpl = true ∧ ∃ v, e = .returned (.tuple #[v, .bool true]) ∧ w'.ownsRow w.heap.size 56 5 v l.length ((l.map rlD).flatMap EntryD.cells))) := by
 obtain ⟨i0, hi, hz0, hz1, hz2⟩ := info_parts info_entry
 have HR := hU hr; have Hsz := hU hsz
 clear hr hsz
 go_enter Tryz.func56, Tryz.ntmps56
 go_wp2_with fail
 go_loopw [4, 11] (fun v i wr => ∃ k : Nat, k ≤ l.length ∧ i = .int .i64 k ∧ (∀ x ∈ l.take k, rlImpl x = true) ∧ wr.ownsRow w.heap.size 56 5 v k (((l.take k).map rlD).flatMap EntryD.cells) ∧ Ext w wr) (fun _ i _ => l.length - (intOf i).toNat)
 case atStart => exact ⟨0, Nat.zero_le _, rfl, by simp, World.ownsRow_nil _ _ _ _, Below.refl w.heap.size w⟩
 case round =>
  obtain ⟨k, hk, rfl, hall, hown, he⟩ := hrel
  obtain ⟨V, cv, rfl, hnc⟩ := ownsRow_form hown
  have KO := hU hown; have HA := hU hall
  clear hown hall
  by_cases hlt : k < l.length
  case neg =>
   obtain rfl : k = l.length := by omega
   have E := hU (show l.all rlImpl = true by rw [List.all_eq_true]; have := HA.out; rwa [List.take_length] at this)
   have KO2 := hU (show _ from by have := KO.out; rwa [List.take_length] at this)
   go_wp2_with fail
   go_ret2
   exact ⟨he, Or.inr ⟨E.out, _, rfl, KO2.out⟩⟩
  obtain ⟨x, hx⟩ : ∃ x, l[k]? = some x := ⟨l[k], List.getElem?_eq_getElem hlt⟩
  obtain ⟨b, off, rfl, hb, c0⟩ := texts_cell (HR.out.ext he) hx
  have hxs := Hsz.out x (List.mem_of_getElem? hx)
  have X := hU hx
  clear hx
  go_wp2_with fail
  refine (ReadLeaf_any x _ hxs).mono ?_
  rintro e w1 ⟨rfl, h1⟩
  replace he := he.next h1; replace KO := hU (ownsRow_ext KO.out h1)
  clear h1 c0
  cases p1 : rlImpl x
  · have E := hU (show l.all rlImpl = false by rw [List.all_eq_false]; exact ⟨x, List.mem_of_getElem? X.out, by rw [p1]; simp⟩)
    simp only [rlRes, rlOut, EntryD.cells, Bool.false_eq_true, if_false]
    go_wp2_with fail
    go_ret2
    exact ⟨he.new _, Or.inl ⟨E.out, rfl⟩⟩
  obtain ⟨d, hd⟩ : ∃ d, d = rlD x := ⟨_, rfl⟩
  rw [← hd]
  have HD := hU hd
  clear hd
  simp only [rlRes, rlOut, EntryD.cells, if_true]
  go_upto_region 6 with fail
  have kd := Blk.new w1 56 #[.string d.topic, .int .i64 d.index, .int .i64 d.time, .string d.key, .string d.body]
  have hx1 := Ext.new (Below.refl w1.heap.size w1) (.cells #[.string d.topic, .int .i64 d.index, .int .i64 d.time, .string d.key, .string d.body] 56)
  replace he := he.next hx1; replace KO := hU (ownsRow_ext KO.out hx1)
  obtain ⟨q, hq⟩ : ∃ q, q = w1.heap.size := ⟨_, rfl⟩
  rw [← hq] at kd
  rw [← hq]
  have hqw := kd.lt
  have hs1 := hq
  clear hq hx1
  obtain ⟨w2, hw2⟩ : ∃ w2, w2 = w1.alloc (.cells #[.string d.topic, .int .i64 d.index, .int .i64 d.time, .string d.key, .string d.body] 56) := ⟨_, rfl⟩
  rw [← hw2] at kd he KO hqw
  have hs2 : w2.heap.size = q + 1 := by rw [hw2, World.size_alloc, hs1]
  rw [← hw2]
  have HS2 := hU hs2
  clear hw2 hs1 hs2
  obtain ⟨rq, fq⟩ := kd.rules
  have hws := he.size
  go_wp2_with (at_builtin; refine wpList_append_moved _ rfl _ _ 24 rfl w.heap.size 56 i0 (.agg #[.string ⟨#[]⟩, .int .i64 0, .int .i64 0, .string ⟨#[]⟩, .string ⟨#[]⟩]) 5 64 Tryz.underlying24 hi hz0 hz1 hz2 rfl (by decide) _ _ _ rfl (KO.out.alloc _) ⟨w2.heap.size, 0, none⟩ 1 1 (#[.string d.topic, .int .i64 d.index, .int .i64 d.time, .string d.key, .string d.body] : Array Value).toList rfl rfl ?c1 ?c2 ?c3 ?c4 ?c5 ?_)
  case c2 => exact ⟨rfl, rfl, rfl, rfl, rfl⟩
  case c3 => unfold maxLen; omega
  case c4 => omega
  case c5 => simp; omega
  intro v' w3 hown' hfrm hmv
  have L0 := hU KO.out.lt
  have he2 : Ext w w3 := hfrm.toExt (he.new _) (fun y hy e => by have := (L0.out _ e).1; omega)
  obtain ⟨hkl, hkd⟩ := List.getElem?_eq_some_iff.1 X.out
  have e2 : ((l.take k).map rlD).flatMap EntryD.cells ++ EntryD.cells d = ((l.take (k + 1)).map rlD).flatMap EntryD.cells := by rw [List.take_succ_eq_append_getElem hkl, hkd, HD.out]; simp
  have O2 := hU (show w3.ownsRow w.heap.size 56 5 v' (k + 1) (((l.take (k + 1)).map rlD).flatMap EntryD.cells) by rw [← e2, List.map_take]; exact hown')
  have HA2 := hU (show ∀ y ∈ l.take (k + 1), rlImpl y = true from fun y hy => by
   rw [List.take_succ_eq_append_getElem hkl, List.mem_append] at hy
   rcases hy with hy | hy
   · exact HA.out y hy
   · obtain rfl := List.mem_singleton.1 hy
     rw [hkd]; exact p1)
  clear hown' hfrm hmv L0 hkd e2 KO he rq fq p1
  go_wp2_with fail
  go_roundw
  case rel => exact ⟨k + 1, by omega, by go_num, HA2.out, O2.out, he2⟩
  case measure => simp [intOf]; omega
theorem ExtBut.alloc_ {g : Nat} {a b : World} (h : ExtBut g a b) (o : Obj) : ExtBut g a (b.alloc o) :=
 ⟨h.os, h.tape, h.output, Nat.le_trans h.size (by simp), fun i hi hne => (Below.heap_alloc b o i (Nat.lt_of_lt_of_le hi h.size)).trans (h.block i hi hne)⟩
theorem ExtBut.setNew {g : Nat} {a b : World} (h : ExtBut g a b) {p : Addr} (hp : a.heap.size ≤ p.block) (u : Value) : ExtBut g a (b.setCell p u) :=
 ⟨h.os, h.tape, h.output, by simpa [World.setCell] using h.size, fun i hi hne => (Below.heap_setCell b p u i (by omega)).trans (h.block i hi hne)⟩
theorem ExtBut.setCellsNew {g q : Nat} {a : World} (hq : a.heap.size ≤ q) : ∀ (vs : List Value) (o : Nat) (b : World), ExtBut g a b → ExtBut g a (b.setCells q o vs)
 | [], _, _, h => h
 | v :: vs, o, b, h => ExtBut.setCellsNew hq vs (o + 1) _ (ExtBut.setNew h (p := ⟨q, o, none⟩) hq v)
def rh1 (T : ByteArray) (r : Rd) : Rd := rdNext T r 2
def rh2 (T : ByteArray) (r : Rd) : Rd := rdNext T (rh1 T r) 2
def rh3 (T : ByteArray) (r : Rd) (m : Nat) : Rd := rdNext T (rh2 T r) m
def rh4 (T : ByteArray) (r : Rd) (m : Nat) : Rd := rdNext T (rh3 T r m) 2
def rh5 (T : ByteArray) (r : Rd) (m : Nat) : Rd := rdNext T (rh4 T r m) m
theorem rh1_pos {T : ByteArray} {r : Rd} (h : r.pos ≤ T.size) : (rh1 T r).pos ≤ T.size := rdNext_pos _ _ _ h
theorem rh2_pos {T : ByteArray} {r : Rd} (h : r.pos ≤ T.size) : (rh2 T r).pos ≤ T.size := rdNext_pos _ _ _ (rh1_pos h)
theorem rh3_pos {T : ByteArray} {r : Rd} (m : Nat) (h : r.pos ≤ T.size) : (rh3 T r m).pos ≤ T.size := rdNext_pos _ _ _ (rh2_pos h)
theorem rh4_pos {T : ByteArray} {r : Rd} (m : Nat) (h : r.pos ≤ T.size) : (rh4 T r m).pos ≤ T.size := rdNext_pos _ _ _ (rh3_pos m h)
def rhD (T : ByteArray) (r : Rd) (m : Nat) : HeadD := ⟨(beNum (rdTake T r 2) : Int), (beNum (rdTake T (rh1 T r) 2) : Int), rdTake T (rh2 T r) m, (beNum (rdTake T (rh3 T r m) 2) : Int), rdTake T (rh4 T r m) m⟩
theorem rHead_any (g : Nat) (T : ByteArray) (r : Rd) (m : Nat) (w : World) (hB : Blk w g 248 (rdCells T r)) (hp : r.pos ≤ T.size) (hT : T.size ≤ 1099511627776) (hm : m ≤ 1000) :
 Calls Tryz.prog 198 #[.pointer (some ⟨g, 0, none⟩), .int .i64 (m : Int)] w fun e w' => e = .returned (.agg #[.int .i64 (rhD T r m).number, .int .i64 (rhD T r m).size, .string (rhD T r m).root, .int .i64 (rhD T r m).taken, .string (rhD T r m).takenRoot]) ∧ Blk w' g 248 (rdCells T (rh5 T r m)) ∧ ExtBut g w w' := by
 have hgl := hB.lt
 have hZ := Blk.new w 33 #[.int .i64 0, .int .i64 0, .string ⟨#[]⟩, .int .i64 0, .string ⟨#[]⟩]
 replace hB := hB.alloc (.cells #[.int .i64 0, .int .i64 0, .string ⟨#[]⟩, .int .i64 0, .string ⟨#[]⟩] 33)
 have hx := (ExtBut.refl g w).alloc_ (.cells #[.int .i64 0, .int .i64 0, .string ⟨#[]⟩, .int .i64 0, .string ⟨#[]⟩] 33)
 go_enter Tryz.func198, Tryz.ntmps198
 go_wp2_with fail
 refine (number_any g T r 2 _ hB hp hT (by decide)).mono ?_
 rintro e w1 ⟨rfl, hB, hy⟩
 replace hZ := hZ.extBut hy (by omega)
 replace hx := hx.next hy
 clear hy
 have hsz := hZ.lt
 go_wp2_with fail
 have hgl1 := hB.lt
 have hD := Blk.new w1 33 #[.int .i64 (beNum (rdTake T r 2) : Int), .int .i64 0, .string ⟨#[]⟩, .int .i64 0, .string ⟨#[]⟩]
 replace hZ := hZ.alloc (.cells #[.int .i64 (beNum (rdTake T r 2) : Int), .int .i64 0, .string ⟨#[]⟩, .int .i64 0, .string ⟨#[]⟩] 33)
 replace hB := hB.alloc (.cells #[.int .i64 (beNum (rdTake T r 2) : Int), .int .i64 0, .string ⟨#[]⟩, .int .i64 0, .string ⟨#[]⟩] 33)
 replace hx := hx.alloc_ (.cells #[.int .i64 (beNum (rdTake T r 2) : Int), .int .i64 0, .string ⟨#[]⟩, .int .i64 0, .string ⟨#[]⟩] 33)
 obtain ⟨g2, hg2⟩ : ∃ g2, g2 = w1.heap.size := ⟨_, rfl⟩
 rw [← hg2] at hD hsz hgl1
 rw [← hg2]
 have hq1 : ¬ w.heap.size = g2 := by omega
 have hq2 : ¬ g = g2 := by omega
 clear hg2
 refine (number_any g T (rh1 T r) 2 _ hB (rh1_pos hp) hT (by decide)).mono ?_
 rintro e w2 ⟨rfl, hB, hy⟩
 replace hZ := hZ.extBut hy (by omega)
 replace hD := hD.extBut hy (by omega)
 replace hx := hx.next hy
 clear hy
 obtain ⟨hc, hf⟩ := hD.rules
 go_wp2_with fail
 clear hc hf
 replace hZ := hZ.far (p := ⟨g2, 1, none⟩) hq1 (.int .i64 (beNum (rdTake T (rh1 T r) 2) : Int))
 replace hB := hB.far (p := ⟨g2, 1, none⟩) hq2 (.int .i64 (beNum (rdTake T (rh1 T r) 2) : Int))
 replace hD := hD.set_ 1 (.int .i64 (beNum (rdTake T (rh1 T r) 2) : Int))
 replace hx : ExtBut g w _ := hx.setNew (p := ⟨g2, 1, none⟩) (by show w.heap.size ≤ g2; omega) (.int .i64 (beNum (rdTake T (rh1 T r) 2) : Int))
 refine (bytes_any g T (rh2 T r) m _ hB (rh2_pos hp) hT (by omega)).mono ?_
 rintro e w3 ⟨rfl, hB, hy⟩
 replace hZ := hZ.extBut hy (by omega)
 replace hD := hD.extBut hy (by omega)
 replace hx := hx.next hy
 clear hy
 obtain ⟨hc, hf⟩ := hD.rules
 go_wp2_with fail
 clear hc hf
 replace hZ := hZ.far (p := ⟨g2, 2, none⟩) hq1 (.string (rdTake T (rh2 T r) m))
 replace hB := hB.far (p := ⟨g2, 2, none⟩) hq2 (.string (rdTake T (rh2 T r) m))
 replace hD := hD.set_ 2 (.string (rdTake T (rh2 T r) m))
 replace hx : ExtBut g w _ := hx.setNew (p := ⟨g2, 2, none⟩) (by show w.heap.size ≤ g2; omega) (.string (rdTake T (rh2 T r) m))
 refine (number_any g T (rh3 T r m) 2 _ hB (rh3_pos m hp) hT (by decide)).mono ?_
 rintro e w4 ⟨rfl, hB, hy⟩
 replace hZ := hZ.extBut hy (by omega)
 replace hD := hD.extBut hy (by omega)
 replace hx := hx.next hy
 clear hy
 obtain ⟨hc, hf⟩ := hD.rules
 go_wp2_with fail
 clear hc hf
 replace hZ := hZ.far (p := ⟨g2, 3, none⟩) hq1 (.int .i64 (beNum (rdTake T (rh3 T r m) 2) : Int))
 replace hB := hB.far (p := ⟨g2, 3, none⟩) hq2 (.int .i64 (beNum (rdTake T (rh3 T r m) 2) : Int))
 replace hD := hD.set_ 3 (.int .i64 (beNum (rdTake T (rh3 T r m) 2) : Int))
 replace hx : ExtBut g w _ := hx.setNew (p := ⟨g2, 3, none⟩) (by show w.heap.size ≤ g2; omega) (.int .i64 (beNum (rdTake T (rh3 T r m) 2) : Int))
 refine (bytes_any g T (rh4 T r m) m _ hB (rh4_pos m hp) hT (by omega)).mono ?_
 rintro e w5 ⟨rfl, hB, hy⟩
 replace hZ := hZ.extBut hy (by omega)
 replace hD := hD.extBut hy (by omega)
 replace hx := hx.next hy
 clear hy
 obtain ⟨hc, hf⟩ := hD.rules
 go_upto_region 6 with fail
 clear hc hf
 replace hZ := hZ.far (p := ⟨g2, 4, none⟩) hq1 (.string (rdTake T (rh4 T r m) m))
 replace hB := hB.far (p := ⟨g2, 4, none⟩) hq2 (.string (rdTake T (rh4 T r m) m))
 replace hD := hD.set_ 4 (.string (rdTake T (rh4 T r m) m))
 replace hx : ExtBut g w _ := hx.setNew (p := ⟨g2, 4, none⟩) (by show w.heap.size ≤ g2; omega) (.string (rdTake T (rh4 T r m) m))
 replace hD : Blk _ g2 33 #[.int .i64 (rhD T r m).number, .int .i64 (rhD T r m).size, .string (rhD T r m).root, .int .i64 (rhD T r m).taken, .string (rhD T r m).takenRoot] := hD
 replace hB : Blk _ _ 248 (rdCells T (rh5 T r m)) := hB
 generalize w5.setCell ⟨g2, 4, none⟩ (.string (rdTake T (rh4 T r m) m)) = w9 at *
 obtain ⟨hc, hf⟩ := hD.rules
 obtain ⟨hzc, hzf⟩ := hZ.rules
 go_wp2_with fail
 have hz := hZ.put 0 (rhD T r m).cells (rhD T r m).cells.toArray (by simp [HeadD.cells]) rfl
 have hb := hB.farCells (g' := w.heap.size) (by omega) (rhD T r m).cells 0
 have hy := ExtBut.setCellsNew (a := w) (q := w.heap.size) (Nat.le_refl _) (rhD T r m).cells 0 w9 hx
 change bodyPost _ _ _ _ _ (w9.setCells w.heap.size 0 (rhD T r m).cells)
 generalize w9.setCells w.heap.size 0 (rhD T r m).cells = w10 at *
 clear hc hf hzc hzf hZ hB hx hD
 refine ret_row rfl rfl hz Tryz.underlying33 rfl (by kernel_rfl) rfl ?_
 exact ⟨rfl, hb, hy⟩
end Go.Proofs.YtgeengkdgdjcjaaGreat
