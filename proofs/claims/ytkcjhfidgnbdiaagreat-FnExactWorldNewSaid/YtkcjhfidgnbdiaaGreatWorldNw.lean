/-
  WorldNew on both sides: walks. Written by program (gen_worldnw.py). No condition.
-/
import Derived.Test.YtkcjhfidgnbdiaaGreatReread
import Derived.Test.YtkcjhfidgnbdiaaGreatAppSrc
import Derived.Test.YtkcjhfidgnbdiaaGreatStoreL
import Derived.Test.YtkcjhfidgnbdiaaGreatDisk0
namespace Go.Proofs.YtkcjhfidgnbdiaaGreat
set_option linter.unusedSimpArgs false
open Go.RowKit
set_option linter.unusedVariables false

def hsOf (ok : Bool) (n : Int) : List HeadD := if ok then [newH true n] else []
def dsOf (ok : Bool) : List ByteArray := if ok then [⟨#[]⟩, ⟨#[]⟩, ⟨#[]⟩] else []
def csOf (ok : Bool) (n : Int) (l : List ByteArray) : List CliZ := if ok then l.map (cliZ n) else []
def worldC (n : Int) (vh vd vc : Value) (h : HeadD) : List Value := [.int .i64 n, .slice none 0 0, .slice none 0 0, vh, .int .i64 0, .slice none 0 0, .int .i64 0, .slice none 0 0, .int .i64 h.number, .int .i64 h.size, .string h.root, .int .i64 h.taken, .string h.takenRoot, vd, vc, .slice none 0 0, .slice none 0 0]
/-- The rows of a new world, of the call's own, in blocks of their own. -/
structure WRows (K : Nat) (w : World) (vh vd vc : Value) (hs : List HeadD) (ds : List ByteArray) (cs : List CliZ) : Prop where
  h : w.ownsRow K 33 5 vh hs.length (hs.flatMap HeadD.cells)
  d : w.ownsRow K 9 1 vd ds.length (ds.flatMap sone)
  c : w.ownsRow K 142 8 vc cs.length (cs.flatMap CliZ.cells)
  hd : ∀ x, vh.ownBlock = some x → vd.ownBlock = some x → False
  hc : ∀ x, vh.ownBlock = some x → vc.ownBlock = some x → False
  dc : ∀ x, vd.ownBlock = some x → vc.ownBlock = some x → False
theorem WRows.ext {K : Nat} {w w' : World} {vh vd vc : Value} {hs : List HeadD} {ds : List ByteArray} {cs : List CliZ} (k : WRows K w vh vd vc hs ds cs) (he : Ext w w') : WRows K w' vh vd vc hs ds cs :=
  ⟨ownsRow_ext k.h he, ownsRow_ext k.d he, ownsRow_ext k.c he, k.hd, k.hc, k.dc⟩
theorem WRows.none (K : Nat) (w : World) : WRows K w (.slice none 0 0) (.slice none 0 0) (.slice none 0 0) [] [] [] :=
  ⟨World.ownsRow_nil _ _ _ _, World.ownsRow_nil _ _ _ _, World.ownsRow_nil _ _ _ _, (fun x h => by cases h), (fun x h => by cases h), (fun x h => by cases h)⟩
theorem WRows.far {K g : Nat} {w w' : World} {vh vd vc : Value} {hs : List HeadD} {ds : List ByteArray} {cs : List CliZ} (k : WRows K w vh vd vc hs ds cs) (he : World.grownBy w w' (some g)) (hg : g < K) : WRows K w' vh vd vc hs ds cs :=
  ⟨ownsRow_far k.h he hg, ownsRow_far k.d he hg, ownsRow_far k.c he hg, k.hd, k.hc, k.dc⟩
theorem WRows.base {K B : Nat} {w : World} {vh vd vc : Value} {hs : List HeadD} {ds : List ByteArray} {cs : List CliZ} (k : WRows K w vh vd vc hs ds cs) (hg : B ≤ K) : WRows B w vh vd vc hs ds cs :=
  ⟨ownsRow_base k.h hg, ownsRow_base k.d hg, ownsRow_base k.c hg, k.hd, k.hc, k.dc⟩
/-- .. behind an append to the last row. -/
theorem WRows.app {K : Nat} {w w' : World} {vh vd vc v' : Value} {hs : List HeadD} {ds : List ByteArray} {cs : List CliZ} {x : CliZ} (k : WRows K w vh vd vc hs ds cs) (ho : w'.ownsRow K 142 8 v' (cs.length + 1) (cs.flatMap CliZ.cells ++ x.cells))
    (hf : Frm (fun b => vc.ownBlock = some b) w w') (hm : Moved vc v' w.heap.size) : WRows K w' vh vd v' hs ds (cs ++ [x]) := by
  refine ⟨hf.own k.h (fun b h e => k.hc b h e), hf.own k.d (fun b h e => k.dc b h e), ?_, k.hd, fun b h e => ?_, fun b h e => ?_⟩
  · rw [List.length_append, List.flatMap_append]; simpa using ho
  · rcases hm b e with h2 | h2
    · exact k.hc b h h2
    · have := (k.h.lt b h).2; omega
  · rcases hm b e with h2 | h2
    · exact k.dc b h h2
    · have := (k.d.lt b h).2; omega
set_option maxHeartbeats 4000000 in
set_option maxRecDepth 100000 in
theorem implWorldNew_no (n : Int) (A : Option Addr) (c : Nat) (l : List ByteArray) (w : World) (hr : SlF AnyB sone 1 w A l c) (hok : ∀ s ∈ l, s.size ≤ maxLen) (ho : (inR n 1 32 && namesB l) = false) :
    Calls Tryz.prog 37 #[.int .i64 n, .slice A l.length c] w fun e w' => e = .returned (.tuple #[.agg #[.int .i64 0, .slice none 0 0, .slice none 0 0, .slice none 0 0, .int .i64 0, .slice none 0 0, .int .i64 0, .slice none 0 0, .int .i64 0, .int .i64 0, .string ⟨#[]⟩, .int .i64 0, .string ⟨#[]⟩, .slice none 0 0, .slice none 0 0, .slice none 0 0, .slice none 0 0], .bool false]) ∧ Ext w w' := by
  have K0 := Lib.hid (Blk.new w 80 #[.int .i64 0, .slice none 0 0, .slice none 0 0, .slice none 0 0, .int .i64 0, .slice none 0 0, .int .i64 0, .slice none 0 0, .int .i64 0, .int .i64 0, .string ⟨#[]⟩, .int .i64 0, .string ⟨#[]⟩, .slice none 0 0, .slice none 0 0, .slice none 0 0, .slice none 0 0])
  have He := Lib.hid (Ext.new (Below.refl w.heap.size w) (.cells #[.int .i64 0, .slice none 0 0, .slice none 0 0, .slice none 0 0, .int .i64 0, .slice none 0 0, .int .i64 0, .slice none 0 0, .int .i64 0, .int .i64 0, .string ⟨#[]⟩, .int .i64 0, .string ⟨#[]⟩, .slice none 0 0, .slice none 0 0, .slice none 0 0, .slice none 0 0] 80))
  have HR := Lib.hid hr
  go_enter Tryz.func37, Tryz.ntmps37
  go_wp2_with fail
  refine (implNamesOk_any n A c l _ (HR.out.ext He.out) hok).mono ?_
  rintro e w1 ⟨rfl, rfl⟩
  rw [ho]
  go_wp2_with fail
  exact ret_row_tmp rfl rfl K0.out Tryz.underlying80 rfl (by kernel_rfl) rfl ⟨rfl, He.out⟩
set_option maxHeartbeats 4000000 in
set_option maxRecDepth 100000 in
theorem implWorldNew_yes (n : Int) (A : Option Addr) (c : Nat) (l : List ByteArray) (w : World) (hr : SlF AnyB sone 1 w A l c) (hok : ∀ s ∈ l, s.size ≤ maxLen) (hy : (inR n 1 32 && namesB l) = true) :
    Calls Tryz.prog 37 #[.int .i64 n, .slice A l.length c] w fun e w' => ∃ vh vd vc, e = .returned (.tuple #[.agg (worldC n vh vd vc (newH true n)).toArray, .bool true]) ∧ WRows w.heap.size w' vh vd vc (hsOf true n) (dsOf true) (csOf true n l) ∧ Ext w w' := by
  have k1 := Blk.new (w.alloc (.cells #[.int .i64 0, .slice none 0 0, .slice none 0 0, .slice none 0 0, .int .i64 0, .slice none 0 0, .int .i64 0, .slice none 0 0, .int .i64 0, .int .i64 0, .string ⟨#[]⟩, .int .i64 0, .string ⟨#[]⟩, .slice none 0 0, .slice none 0 0, .slice none 0 0, .slice none 0 0] 80)) 80 #[.int .i64 0, .slice none 0 0, .slice none 0 0, .slice none 0 0, .int .i64 0, .slice none 0 0, .int .i64 0, .slice none 0 0, .int .i64 0, .int .i64 0, .string ⟨#[]⟩, .int .i64 0, .string ⟨#[]⟩, .slice none 0 0, .slice none 0 0, .slice none 0 0, .slice none 0 0]
  rw [World.size_alloc] at k1
  have K0 := Lib.hid ((Blk.new w 80 #[.int .i64 0, .slice none 0 0, .slice none 0 0, .slice none 0 0, .int .i64 0, .slice none 0 0, .int .i64 0, .slice none 0 0, .int .i64 0, .int .i64 0, .string ⟨#[]⟩, .int .i64 0, .string ⟨#[]⟩, .slice none 0 0, .slice none 0 0, .slice none 0 0, .slice none 0 0]).alloc (.cells #[.int .i64 0, .slice none 0 0, .slice none 0 0, .slice none 0 0, .int .i64 0, .slice none 0 0, .int .i64 0, .slice none 0 0, .int .i64 0, .int .i64 0, .string ⟨#[]⟩, .int .i64 0, .string ⟨#[]⟩, .slice none 0 0, .slice none 0 0, .slice none 0 0, .slice none 0 0] 80))
  have K1 := Lib.hid k1; clear k1
  have He0 := Lib.hid (Ext.new (Below.refl w.heap.size w) (.cells #[.int .i64 0, .slice none 0 0, .slice none 0 0, .slice none 0 0, .int .i64 0, .slice none 0 0, .int .i64 0, .slice none 0 0, .int .i64 0, .int .i64 0, .string ⟨#[]⟩, .int .i64 0, .string ⟨#[]⟩, .slice none 0 0, .slice none 0 0, .slice none 0 0, .slice none 0 0] 80))
  have He := Lib.hid (Ext.new He0.out (.cells #[.int .i64 0, .slice none 0 0, .slice none 0 0, .slice none 0 0, .int .i64 0, .slice none 0 0, .int .i64 0, .slice none 0 0, .int .i64 0, .int .i64 0, .string ⟨#[]⟩, .int .i64 0, .string ⟨#[]⟩, .slice none 0 0, .slice none 0 0, .slice none 0 0, .slice none 0 0] 80))
  have HR := Lib.hid hr
  have hle := hr.le
  have hcm := hr.cap
  unfold maxLen at hcm
  obtain ⟨hw, h4, hall⟩ := names_ok hy
  have Hall := Lib.hid hall; clear hall
  obtain ⟨i0, hi0, hz0, hz1, hz2⟩ := info_parts info_client
  obtain ⟨h, hh⟩ : ∃ h, h = newH true n := ⟨_, rfl⟩
  have Hh := Lib.hid hh; clear hh
  have BN := Lib.hid (fun W => implBrokerNew_yes n W hw)
  rw [← Hh.out] at BN ⊢
  go_enter Tryz.func37, Tryz.ntmps37
  go_wp2_with fail
  refine (implNamesOk_any n A c l _ (HR.out.ext He0.out) hok).mono ?_
  rintro e w1 ⟨rfl, rfl⟩
  rw [hy]
  clear He0
  go_wp2_with fail
  obtain ⟨g, hg⟩ : ∃ g, g = w.heap.size := ⟨_, rfl⟩
  rw [← hg] at K0 K1
  rw [← hg]
  have hg0 : w.heap.size ≤ g := by omega
  clear hg
  generalize (w.alloc (.cells #[.int .i64 0, .slice none 0 0, .slice none 0 0, .slice none 0 0, .int .i64 0, .slice none 0 0, .int .i64 0, .slice none 0 0, .int .i64 0, .int .i64 0, .string ⟨#[]⟩, .int .i64 0, .string ⟨#[]⟩, .slice none 0 0, .slice none 0 0, .slice none 0 0, .slice none 0 0] 80)).alloc (.cells #[.int .i64 0, .slice none 0 0, .slice none 0 0, .slice none 0 0, .int .i64 0, .slice none 0 0, .int .i64 0, .slice none 0 0, .int .i64 0, .int .i64 0, .string ⟨#[]⟩, .int .i64 0, .string ⟨#[]⟩, .slice none 0 0, .slice none 0 0, .slice none 0 0, .slice none 0 0] 80) = w1 at *
  refine (BN.out _).mono ?_
  rintro e w2 ⟨q, rfl, hq, kq, h1⟩
  have hgq : g + 1 < q := Nat.lt_of_lt_of_le K1.out.lt hq
  have k0 := K0.out.ext h1; have k1 := K1.out.ext h1; have he := He.out.next h1
  clear h1 K0 K1 He BN hq
  simp only [brokNC]
  obtain ⟨w3, hw3, y0, y1, yq, ye⟩ : ∃ w3, w3 = w2.setCells (g + 1) 0 [.int .i64 n, .slice none 0 0, .slice none 0 0, .slice (some ⟨q, 0, none⟩) 1 1, .int .i64 0, .slice none 0 0, .int .i64 0, .slice none 0 0, .int .i64 h.number, .int .i64 h.size, .string h.root, .int .i64 h.taken, .string h.takenRoot] ∧ Blk w3 g 80 #[.int .i64 0, .slice none 0 0, .slice none 0 0, .slice none 0 0, .int .i64 0, .slice none 0 0, .int .i64 0, .slice none 0 0, .int .i64 0, .int .i64 0, .string ⟨#[]⟩, .int .i64 0, .string ⟨#[]⟩, .slice none 0 0, .slice none 0 0, .slice none 0 0, .slice none 0 0] ∧ Blk w3 (g + 1) 80 #[.int .i64 n, .slice none 0 0, .slice none 0 0, .slice (some ⟨q, 0, none⟩) 1 1, .int .i64 0, .slice none 0 0, .int .i64 0, .slice none 0 0, .int .i64 h.number, .int .i64 h.size, .string h.root, .int .i64 h.taken, .string h.takenRoot, .slice none 0 0, .slice none 0 0, .slice none 0 0, .slice none 0 0] ∧ Blk w3 q 33 h.cells.toArray ∧ Ext w w3 :=
    ⟨_, rfl, k0.farCells (by omega) _ 0, k1.put 0 [.int .i64 n, .slice none 0 0, .slice none 0 0, .slice (some ⟨q, 0, none⟩) 1 1, .int .i64 0, .slice none 0 0, .int .i64 0, .slice none 0 0, .int .i64 h.number, .int .i64 h.size, .string h.root, .int .i64 h.taken, .string h.takenRoot] #[.int .i64 n, .slice none 0 0, .slice none 0 0, .slice (some ⟨q, 0, none⟩) 1 1, .int .i64 0, .slice none 0 0, .int .i64 0, .slice none 0 0, .int .i64 h.number, .int .i64 h.size, .string h.root, .int .i64 h.taken, .string h.takenRoot, .slice none 0 0, .slice none 0 0, .slice none 0 0, .slice none 0 0] (by simp) rfl, kq.farCells (by omega) _ 0, ext_setCells (W := w) (g := g + 1) (by omega) [.int .i64 n, .slice none 0 0, .slice none 0 0, .slice (some ⟨q, 0, none⟩) 1 1, .int .i64 0, .slice none 0 0, .int .i64 0, .slice none 0 0, .int .i64 h.number, .int .i64 h.size, .string h.root, .int .i64 h.taken, .string h.takenRoot] 0 _ he⟩
  have HW := Lib.hid hw3
  have T1 := Lib.hid (k1.there 0 13 (by simp))
  clear hw3 k0 k1 kq he
  have Y0 := Lib.hid y0; have Yq := Lib.hid yq; have Ye := Lib.hid ye; have Y1 := Lib.hid y1
  clear y0 yq ye y1
  go_wp2_with (refine wpList_store_list rfl 37 _ _ rfl rfl (g + 1) 0 [.int .i64 n, .slice none 0 0, .slice none 0 0, .slice (some ⟨q, 0, none⟩) 1 1, .int .i64 0, .slice none 0 0, .int .i64 0, .slice none 0 0, .int .i64 h.number, .int .i64 h.size, .string h.root, .int .i64 h.taken, .string h.takenRoot] rfl rfl T1.out (by kernel_rfl) (by rfl) ?_; rw [← HW.out])
  refine (disk_new (g + 1) q w3 (Y1.out.cell 1) (Y1.out.cell 2) (Y1.out.cell 3) Y1.out.lt).mono ?_
  rintro e w4 ⟨p, rfl, hp, kp, h1⟩
  have hqp : q < p := Nat.lt_of_lt_of_le Yq.out.lt hp
  have k0 := Y0.out.ext h1; have k1 := Y1.out.ext h1; have kq := Yq.out.ext h1; have he := Ye.out.next h1
  clear h1 Y0 Y1 Yq Ye HW T1 hp
  obtain ⟨w5, hw5, y0, y1, yq, yp, ye⟩ : ∃ w5, w5 = w4.setCell ⟨g + 1, 13, none⟩ (.slice (some ⟨p, 0, none⟩) 3 3) ∧ Blk w5 g 80 #[.int .i64 0, .slice none 0 0, .slice none 0 0, .slice none 0 0, .int .i64 0, .slice none 0 0, .int .i64 0, .slice none 0 0, .int .i64 0, .int .i64 0, .string ⟨#[]⟩, .int .i64 0, .string ⟨#[]⟩, .slice none 0 0, .slice none 0 0, .slice none 0 0, .slice none 0 0] ∧ Blk w5 (g + 1) 80 #[.int .i64 n, .slice none 0 0, .slice none 0 0, .slice (some ⟨q, 0, none⟩) 1 1, .int .i64 0, .slice none 0 0, .int .i64 0, .slice none 0 0, .int .i64 h.number, .int .i64 h.size, .string h.root, .int .i64 h.taken, .string h.takenRoot, .slice (some ⟨p, 0, none⟩) 3 3, .slice none 0 0, .slice none 0 0, .slice none 0 0] ∧ Blk w5 q 33 h.cells.toArray ∧ Blk w5 p 9 #[.string ⟨#[]⟩, .string ⟨#[]⟩, .string ⟨#[]⟩] ∧ Ext w w5 :=
    ⟨_, rfl, k0.farCells (g' := g + 1) (by omega) [.slice (some ⟨p, 0, none⟩) 3 3] 13, k1.put 13 [.slice (some ⟨p, 0, none⟩) 3 3] #[.int .i64 n, .slice none 0 0, .slice none 0 0, .slice (some ⟨q, 0, none⟩) 1 1, .int .i64 0, .slice none 0 0, .int .i64 0, .slice none 0 0, .int .i64 h.number, .int .i64 h.size, .string h.root, .int .i64 h.taken, .string h.takenRoot, .slice (some ⟨p, 0, none⟩) 3 3, .slice none 0 0, .slice none 0 0, .slice none 0 0] (by simp) rfl, kq.farCells (g' := g + 1) (by omega) [.slice (some ⟨p, 0, none⟩) 3 3] 13, kp.farCells (g' := g + 1) (by omega) [.slice (some ⟨p, 0, none⟩) 3 3] 13, ext_setCells (W := w) (g := g + 1) (by omega) [.slice (some ⟨p, 0, none⟩) 3 3] 13 _ he⟩
  have HW := Lib.hid hw5
  obtain ⟨r1, f1⟩ := k1.rules
  clear hw5 k0 kq kp he
  have Y0 := Lib.hid y0; have Yq := Lib.hid yq; have Yp := Lib.hid yp; have Ye := Lib.hid ye; have Y1 := Lib.hid y1
  clear y0 yq yp ye y1
  go_wp2_with fail
  rw [← HW.out]
  clear HW r1 f1
  have R0 : WRows (g + 2) w5 (.slice (some ⟨q, 0, none⟩) 1 1) (.slice (some ⟨p, 0, none⟩) 3 3) (.slice none 0 0) [h] [⟨#[]⟩, ⟨#[]⟩, ⟨#[]⟩] ((l.take 0).map (cliZ n)) :=
    ⟨by have := Yq.out.ownsRow 1 5 (g + 2) (by omega) rfl (by unfold maxLen; omega); simpa [HeadD.cells] using this, by have := Blk.ownsRow (xs := [.string ⟨#[]⟩, .string ⟨#[]⟩, .string ⟨#[]⟩]) Yp.out 3 1 (g + 2) (by omega) rfl (by unfold maxLen; omega); simpa [sone] using this, World.ownsRow_nil _ _ _ _, (fun x h1 h2 => by simp [Value.ownBlock] at h1 h2; omega), (fun x h1 h2 => by cases h2), (fun x h1 h2 => by cases h2)⟩
  have RR := Lib.hid R0; clear R0 Yq Yp
  go_loopw [27] (fun i wr => ∃ (k : Nat) (vc : Value), k ≤ l.length ∧ i = .int .i64 k ∧ Blk wr g 80 #[.int .i64 0, .slice none 0 0, .slice none 0 0, .slice none 0 0, .int .i64 0, .slice none 0 0, .int .i64 0, .slice none 0 0, .int .i64 0, .int .i64 0, .string ⟨#[]⟩, .int .i64 0, .string ⟨#[]⟩, .slice none 0 0, .slice none 0 0, .slice none 0 0, .slice none 0 0] ∧ Blk wr (g + 1) 80 #[.int .i64 n, .slice none 0 0, .slice none 0 0, .slice (some ⟨q, 0, none⟩) 1 1, .int .i64 0, .slice none 0 0, .int .i64 0, .slice none 0 0, .int .i64 h.number, .int .i64 h.size, .string h.root, .int .i64 h.taken, .string h.takenRoot, .slice (some ⟨p, 0, none⟩) 3 3, vc, .slice none 0 0, .slice none 0 0] ∧ WRows (g + 2) wr (.slice (some ⟨q, 0, none⟩) 1 1) (.slice (some ⟨p, 0, none⟩) 3 3) vc [h] [⟨#[]⟩, ⟨#[]⟩, ⟨#[]⟩] ((l.take k).map (cliZ n)) ∧ Ext w wr) (fun i _ => l.length - (intOf i).toNat)
  case atStart => exact ⟨0, _, Nat.zero_le _, rfl, Y0.out, Y1.out, RR.out, Ye.out⟩
  case round =>
    clear Y0 Y1 RR Ye
    obtain ⟨k, vc, hk, rfl, hA, hB, hT, he⟩ := hrel
    have hcl : ((l.take k).map (cliZ n)).length = k := by simp; omega
    obtain ⟨V0, cv0, rfl, hnc0⟩ := ownsRow_form hT.c
    rw [hcl] at hB hT
    rw [hcl] at hnc0
    have KA := Lib.hid hA; have KB := Lib.hid hB; have KT := Lib.hid hT
    clear hA hT
    by_cases hlt : k < l.length
    case neg =>
      obtain rfl : k = l.length := by omega
      obtain ⟨w6, hw6, y0, yr, ye⟩ : ∃ w6, w6 = wr.setCells g 0 [.int .i64 n, .slice none 0 0, .slice none 0 0, .slice (some ⟨q, 0, none⟩) 1 1, .int .i64 0, .slice none 0 0, .int .i64 0, .slice none 0 0, .int .i64 h.number, .int .i64 h.size, .string h.root, .int .i64 h.taken, .string h.takenRoot, .slice (some ⟨p, 0, none⟩) 3 3, .slice V0 l.length cv0, .slice none 0 0, .slice none 0 0] ∧ Blk w6 g 80 #[.int .i64 n, .slice none 0 0, .slice none 0 0, .slice (some ⟨q, 0, none⟩) 1 1, .int .i64 0, .slice none 0 0, .int .i64 0, .slice none 0 0, .int .i64 h.number, .int .i64 h.size, .string h.root, .int .i64 h.taken, .string h.takenRoot, .slice (some ⟨p, 0, none⟩) 3 3, .slice V0 l.length cv0, .slice none 0 0, .slice none 0 0] ∧ WRows w.heap.size w6 (.slice (some ⟨q, 0, none⟩) 1 1) (.slice (some ⟨p, 0, none⟩) 3 3) (.slice V0 l.length cv0) (hsOf true n) (dsOf true) (csOf true n l) ∧ Ext w w6 :=
        ⟨_, rfl, KA.out.put 0 [.int .i64 n, .slice none 0 0, .slice none 0 0, .slice (some ⟨q, 0, none⟩) 1 1, .int .i64 0, .slice none 0 0, .int .i64 0, .slice none 0 0, .int .i64 h.number, .int .i64 h.size, .string h.root, .int .i64 h.taken, .string h.takenRoot, .slice (some ⟨p, 0, none⟩) 3 3, .slice V0 l.length cv0, .slice none 0 0, .slice none 0 0] #[.int .i64 n, .slice none 0 0, .slice none 0 0, .slice (some ⟨q, 0, none⟩) 1 1, .int .i64 0, .slice none 0 0, .int .i64 0, .slice none 0 0, .int .i64 h.number, .int .i64 h.size, .string h.root, .int .i64 h.taken, .string h.takenRoot, .slice (some ⟨p, 0, none⟩) 3 3, .slice V0 l.length cv0, .slice none 0 0, .slice none 0 0] (by simp) rfl, by
          have := (KT.out.far (grow_setCells g [.int .i64 n, .slice none 0 0, .slice none 0 0, .slice (some ⟨q, 0, none⟩) 1 1, .int .i64 0, .slice none 0 0, .int .i64 0, .slice none 0 0, .int .i64 h.number, .int .i64 h.size, .string h.root, .int .i64 h.taken, .string h.takenRoot, .slice (some ⟨p, 0, none⟩) 3 3, .slice V0 l.length cv0, .slice none 0 0, .slice none 0 0] 0 wr wr ⟨rfl, rfl, rfl, Nat.le_refl _, fun _ _ _ => rfl⟩) (by omega)).base (B := w.heap.size) (by omega)
          rw [List.take_length] at this
          simpa [hsOf, dsOf, csOf, ← Hh.out] using this, ext_setCells (W := w) (g := g) hg0 [.int .i64 n, .slice none 0 0, .slice none 0 0, .slice (some ⟨q, 0, none⟩) 1 1, .int .i64 0, .slice none 0 0, .int .i64 0, .slice none 0 0, .int .i64 h.number, .int .i64 h.size, .string h.root, .int .i64 h.taken, .string h.takenRoot, .slice (some ⟨p, 0, none⟩) 3 3, .slice V0 l.length cv0, .slice none 0 0, .slice none 0 0] 0 _ he⟩
      have HW := Lib.hid hw6
      have TH := Lib.hid (KA.out.there 0 17 (by simp))
      have RG : Hid (wr.rangeAt (g + 1) 0 [.int .i64 n, .slice none 0 0, .slice none 0 0, .slice (some ⟨q, 0, none⟩) 1 1, .int .i64 0, .slice none 0 0, .int .i64 0, .slice none 0 0, .int .i64 h.number, .int .i64 h.size, .string h.root, .int .i64 h.taken, .string h.takenRoot, .slice (some ⟨p, 0, none⟩) 3 3, .slice V0 l.length cv0, .slice none 0 0, .slice none 0 0]) := Lib.hid (Blk.range KB.out)
      have Z0 := Lib.hid y0; have ZR := Lib.hid yr; have ZE := Lib.hid ye
      clear hw6 y0 yr ye hB KA KB KT he
      go_wp2_with (first | (refine wpList_load_mid rfl 80 _ rfl (g + 1) 0 rfl [.int .i64 n, .slice none 0 0, .slice none 0 0, .slice (some ⟨q, 0, none⟩) 1 1, .int .i64 0, .slice none 0 0, .int .i64 0, .slice none 0 0, .int .i64 h.number, .int .i64 h.size, .string h.root, .int .i64 h.taken, .string h.takenRoot, .slice (some ⟨p, 0, none⟩) 3 3, .slice V0 l.length cv0, .slice none 0 0, .slice none 0 0] _ RG.out Tryz.underlying80 rfl (by kernel_rfl) ?_) | (refine wpList_store_list rfl 80 _ _ rfl rfl g 0 [.int .i64 n, .slice none 0 0, .slice none 0 0, .slice (some ⟨q, 0, none⟩) 1 1, .int .i64 0, .slice none 0 0, .int .i64 0, .slice none 0 0, .int .i64 h.number, .int .i64 h.size, .string h.root, .int .i64 h.taken, .string h.takenRoot, .slice (some ⟨p, 0, none⟩) 3 3, .slice V0 l.length cv0, .slice none 0 0, .slice none 0 0] rfl rfl TH.out (by kernel_rfl) (by rfl) ?_; rw [← HW.out]))
      exact ret_row_tmp rfl rfl Z0.out Tryz.underlying80 rfl (by kernel_rfl) rfl ⟨_, _, _, rfl, ZR.out, ZE.out⟩
    obtain ⟨b, off, rfl, hb, hc⟩ := Reads.at_ (HR.out.ext he).reads (k := k) hlt
    obtain ⟨d, hd⟩ : ∃ d, d = l[k] := ⟨_, rfl⟩
    have hdl : l[k]? = some d := by rw [hd]; exact List.getElem?_eq_getElem hlt
    have hds := hok d (List.mem_of_getElem? hdl)
    have hn := Hall.out d (List.mem_of_getElem? hdl)
    have c0 := hc 0 _ (flat_at _ 1 sone_length l k 0 d hdl (by omega))
    rw [Nat.add_zero, Nat.mul_one] at c0
    have Hdl := Lib.hid hdl
    clear hc hd hdl
    have CC := Lib.hid (fun W => implClientNew_any n d W hds)
    simp only [newC_z hn, hn] at CC
    go_wp2_with fail
    refine (CC.out _).mono ?_
    rintro e w6 ⟨rfl, h1⟩
    replace he := he.next h1; replace KA := Lib.hid (KA.out.ext h1); have hB2 := KB.out.ext h1; replace KT := Lib.hid (KT.out.ext h1)
    clear h1 hB KB c0 CC
    have hgl := hB2.lt
    have e1 : (cliZ n d).cells = (#[.int .i64 n, .string d, .int .i64 h.number, .int .i64 h.size, .string h.root, .int .i64 h.taken, .string h.takenRoot, .slice none 0 0] : Array Value).toList := by rw [Hh.out]; rfl
    rw [e1]
    have X1 := Lib.hid e1
    clear e1
    go_upto_region 10 with fail
    have z1 := Blk.new w6 142 #[.int .i64 n, .string d, .int .i64 h.number, .int .i64 h.size, .string h.root, .int .i64 h.taken, .string h.takenRoot, .slice none 0 0]
    replace he := he.new (.cells #[.int .i64 n, .string d, .int .i64 h.number, .int .i64 h.size, .string h.root, .int .i64 h.taken, .string h.takenRoot, .slice none 0 0] 142); replace KA := Lib.hid (KA.out.alloc (.cells #[.int .i64 n, .string d, .int .i64 h.number, .int .i64 h.size, .string h.root, .int .i64 h.taken, .string h.takenRoot, .slice none 0 0] 142)); replace hB2 := hB2.alloc (.cells #[.int .i64 n, .string d, .int .i64 h.number, .int .i64 h.size, .string h.root, .int .i64 h.taken, .string h.takenRoot, .slice none 0 0] 142); replace KT := Lib.hid (KT.out.ext (Ext.new (Below.refl _ _) (.cells #[.int .i64 n, .string d, .int .i64 h.number, .int .i64 h.size, .string h.root, .int .i64 h.taken, .string h.takenRoot, .slice none 0 0] 142)))
    obtain ⟨q2, hq2⟩ : ∃ q2, q2 = w6.heap.size := ⟨_, rfl⟩
    rw [← hq2] at z1 hgl
    rw [← hq2]
    clear hq2
    generalize w6.alloc (.cells #[.int .i64 n, .string d, .int .i64 h.number, .int .i64 h.size, .string h.root, .int .i64 h.taken, .string h.takenRoot, .slice none 0 0] 142) = w7 at *
    obtain ⟨r0, f0⟩ := hB2.rules
    obtain ⟨r1, f1⟩ := z1.rules
    have hs7 := z1.lt
    go_wp2_with (at_builtin; refine wpList_append_moved _ rfl _ _ 76 rfl (g + 2) 142 i0 _ 8 104 Tryz.underlying76 hi0 hz0 hz1 hz2 rfl (by decide) _ _ _ rfl (KT.out.c.alloc _) ⟨w7.heap.size, 0, none⟩ 1 1 (#[.int .i64 n, .string d, .int .i64 h.number, .int .i64 h.size, .string h.root, .int .i64 h.taken, .string h.takenRoot, .slice none 0 0] : Array Value).toList rfl rfl ?c1 ?c2 ?c3 ?c4 ?c5 ?_)
    case c2 => exact ⟨rfl, rfl, rfl, rfl, rfl, rfl, rfl, rfl⟩
    case c3 => unfold maxLen; omega
    case c4 => omega
    case c5 => simp; omega
    intro v' w8 hown' hfrm hmv
    obtain ⟨V2, cv2, rfl, hnc2⟩ := ownsRow_form hown'
    have L0 := Lib.hid KT.out.c.lt
    have KA8 := hfrm.blk (KA.out.alloc _) (fun e => by have := (L0.out _ e).1; omega)
    have KB8 := hfrm.blk (hB2.alloc _) (fun e => by have := (L0.out _ e).1; omega)
    have he8 : Ext w w8 := hfrm.toExt (he.new _) (fun x hx e => by have := (L0.out _ e).1; omega)
    have R8 := (KT.out.ext (Ext.new (Below.refl _ _) (.cells #[.int .i64 n, .string d, .int .i64 h.number, .int .i64 h.size, .string h.root, .int .i64 h.taken, .string h.takenRoot, .slice none 0 0] 142))).app (x := cliZ n d) (v' := .slice V2 (k + 1) cv2) (w' := w8) (by rw [X1.out, hcl]; simp only [List.map_take] at hown' ⊢; exact hown') hfrm (by simpa using hmv)
    obtain ⟨hkl, hkd⟩ := List.getElem?_eq_some_iff.1 Hdl.out
    have e2 : List.map (cliZ n) (List.take k l) ++ [cliZ n d] = List.map (cliZ n) (List.take (k + 1) l) := by rw [List.take_succ_eq_append_getElem hkl, hkd, List.map_append]; rfl
    rw [e2] at R8
    have hgr9 := grow_setCells (g + 1) [.slice V2 (k + 1) cv2] 14 w8 w8 ⟨rfl, rfl, rfl, Nat.le_refl _, fun _ _ _ => rfl⟩
    obtain ⟨w9, hw9, Z0, Z1, ZR, ZE⟩ : ∃ w9, w9 = w8.setCell ⟨g + 1, 14, none⟩ (.slice V2 (k + 1) cv2) ∧ Blk w9 g 80 #[.int .i64 0, .slice none 0 0, .slice none 0 0, .slice none 0 0, .int .i64 0, .slice none 0 0, .int .i64 0, .slice none 0 0, .int .i64 0, .int .i64 0, .string ⟨#[]⟩, .int .i64 0, .string ⟨#[]⟩, .slice none 0 0, .slice none 0 0, .slice none 0 0, .slice none 0 0] ∧ Blk w9 (g + 1) 80 #[.int .i64 n, .slice none 0 0, .slice none 0 0, .slice (some ⟨q, 0, none⟩) 1 1, .int .i64 0, .slice none 0 0, .int .i64 0, .slice none 0 0, .int .i64 h.number, .int .i64 h.size, .string h.root, .int .i64 h.taken, .string h.takenRoot, .slice (some ⟨p, 0, none⟩) 3 3, .slice V2 (k + 1) cv2, .slice none 0 0, .slice none 0 0] ∧ WRows (g + 2) w9 (.slice (some ⟨q, 0, none⟩) 1 1) (.slice (some ⟨p, 0, none⟩) 3 3) (.slice V2 (k + 1) cv2) [h] [⟨#[]⟩, ⟨#[]⟩, ⟨#[]⟩] ((l.take (k + 1)).map (cliZ n)) ∧ Ext w w9 :=
      ⟨_, rfl, KA8.farCells (g' := g + 1) (by omega) [.slice V2 (k + 1) cv2] 14, KB8.put 14 [.slice V2 (k + 1) cv2] #[.int .i64 n, .slice none 0 0, .slice none 0 0, .slice (some ⟨q, 0, none⟩) 1 1, .int .i64 0, .slice none 0 0, .int .i64 0, .slice none 0 0, .int .i64 h.number, .int .i64 h.size, .string h.root, .int .i64 h.taken, .string h.takenRoot, .slice (some ⟨p, 0, none⟩) 3 3, .slice V2 (k + 1) cv2, .slice none 0 0, .slice none 0 0] (by simp) rfl, R8.far hgr9 (by omega), ext_setCells (W := w) (g := g + 1) (by omega) [.slice V2 (k + 1) cv2] 14 _ he8⟩
    have HW := Lib.hid hw9
    obtain ⟨r8, f8⟩ := KB8.rules
    clear hw9 KA8 R8 hown' hfrm hmv he he8 hgr9 KA KT hB2 z1 r0 f0 r1 f1 L0 hkd e2
    replace Z0 := Lib.hid Z0; replace Z1 := Lib.hid Z1; replace ZR := Lib.hid ZR
    go_wp2_with fail
    rw [← HW.out]
    go_roundw
    case rel => exact ⟨k + 1, _, by omega, by go_num, Z0.out, Z1.out, ZR.out, ZE⟩
    case measure => simp [intOf]; omega
theorem ownsRow_ne {w : World} {K e size n G t : Nat} {v : Value} {xs : List Value} {cs : Array Value} (h : w.ownsRow K e size v n xs) (hb : Blk w G t cs) (ht : t ≠ e) : ∀ x, v.ownBlock = some x → x ≠ G := by
  intro x hx hG
  subst hG
  rcases h.2 with ⟨rfl, _⟩ | ⟨g, cap, cur, rfl, hg, hh, _⟩
  · cases hx
  · simp [Value.ownBlock] at hx
    subst hx
    have hb' : w.heap[g]? = some (.cells cs t (0, 0)) := hb
    rw [hh] at hb'
    simp at hb'
    exact ht hb'.2.symm
theorem WRows.farT {K G : Nat} {w : World} {vh vd vc : Value} {hs : List HeadD} {ds : List ByteArray} {cs : List CliZ} {cc : Array Value} (k : WRows K w vh vd vc hs ds cs) (hb : Blk w G 80 cc) (vs : List Value) (o : Nat) : WRows K (w.setCells G o vs) vh vd vc hs ds cs := by
  have hf := Frm.setCells (Frm.refl (fun b => b = G) w) (g := G) (fun _ => rfl) vs o
  exact ⟨hf.own k.h (fun x hx => ownsRow_ne k.h hb (by decide) x hx), hf.own k.d (fun x hx => ownsRow_ne k.d hb (by decide) x hx), hf.own k.c (fun x hx => ownsRow_ne k.c hb (by decide) x hx), k.hd, k.hc, k.dc⟩
set_option maxHeartbeats 4000000 in
set_option maxRecDepth 100000 in
theorem specWorldNew_no (n : Int) (A : Option Addr) (c : Nat) (l : List ByteArray) (w : World) (hr : SlF AnyB sone 1 w A l c) (hok : ∀ s ∈ l, s.size ≤ maxLen) (ho : (inR n 1 32 && namesB l) = false) :
    Calls Tryz.prog 35 #[.int .i64 n, .slice A l.length c] w fun e w' => e = .returned (.tuple #[.agg #[.int .i64 0, .slice none 0 0, .slice none 0 0, .slice none 0 0, .int .i64 0, .slice none 0 0, .int .i64 0, .slice none 0 0, .int .i64 0, .int .i64 0, .string ⟨#[]⟩, .int .i64 0, .string ⟨#[]⟩, .slice none 0 0, .slice none 0 0, .slice none 0 0, .slice none 0 0], .bool false]) ∧ Ext w w' := by
  have K0 := Lib.hid (Blk.new w 80 #[.int .i64 0, .slice none 0 0, .slice none 0 0, .slice none 0 0, .int .i64 0, .slice none 0 0, .int .i64 0, .slice none 0 0, .int .i64 0, .int .i64 0, .string ⟨#[]⟩, .int .i64 0, .string ⟨#[]⟩, .slice none 0 0, .slice none 0 0, .slice none 0 0, .slice none 0 0])
  have He := Lib.hid (Ext.new (Below.refl w.heap.size w) (.cells #[.int .i64 0, .slice none 0 0, .slice none 0 0, .slice none 0 0, .int .i64 0, .slice none 0 0, .int .i64 0, .slice none 0 0, .int .i64 0, .int .i64 0, .string ⟨#[]⟩, .int .i64 0, .string ⟨#[]⟩, .slice none 0 0, .slice none 0 0, .slice none 0 0, .slice none 0 0] 80))
  have HR := Lib.hid hr
  cases b1 : inR n 1 32
  · have BN := Lib.hid (fun W => specBrokerNew_no n W b1)
    go_enter Tryz.func35, Tryz.ntmps35
    go_wp2_with fail
    refine (BN.out _).mono ?_
    rintro e w1 ⟨rfl, h1⟩
    simp only [brokNC]
    have k0 := K0.out.ext h1; have he := He.out.next h1
    have hgl := k0.lt
    clear h1 K0 He BN
    go_upto_region 2 with fail
    replace k0 := k0.alloc (.cells #[.int .i64 0, .slice none 0 0, .slice none 0 0, .slice none 0 0, .int .i64 0, .slice none 0 0, .int .i64 0, .slice none 0 0, .int .i64 (newH false n).number, .int .i64 (newH false n).size, .string (newH false n).root, .int .i64 (newH false n).taken, .string (newH false n).takenRoot] 37)
    replace he := he.new (.cells #[.int .i64 0, .slice none 0 0, .slice none 0 0, .slice none 0 0, .int .i64 0, .slice none 0 0, .int .i64 0, .slice none 0 0, .int .i64 (newH false n).number, .int .i64 (newH false n).size, .string (newH false n).root, .int .i64 (newH false n).taken, .string (newH false n).takenRoot] 37)
    generalize w1.alloc (.cells #[.int .i64 0, .slice none 0 0, .slice none 0 0, .slice none 0 0, .int .i64 0, .slice none 0 0, .int .i64 0, .slice none 0 0, .int .i64 (newH false n).number, .int .i64 (newH false n).size, .string (newH false n).root, .int .i64 (newH false n).taken, .string (newH false n).takenRoot] 37) = w2 at *
    obtain ⟨w3, hw3, y0, ye⟩ : ∃ w3, w3 = w2.setCells w.heap.size 0 [.int .i64 0, .slice none 0 0, .slice none 0 0, .slice none 0 0, .int .i64 0, .slice none 0 0, .int .i64 0, .slice none 0 0, .int .i64 0, .int .i64 0, .string ⟨#[]⟩, .int .i64 0, .string ⟨#[]⟩, .slice none 0 0, .slice none 0 0, .slice none 0 0, .slice none 0 0] ∧ Blk w3 w.heap.size 80 #[.int .i64 0, .slice none 0 0, .slice none 0 0, .slice none 0 0, .int .i64 0, .slice none 0 0, .int .i64 0, .slice none 0 0, .int .i64 0, .int .i64 0, .string ⟨#[]⟩, .int .i64 0, .string ⟨#[]⟩, .slice none 0 0, .slice none 0 0, .slice none 0 0, .slice none 0 0] ∧ Ext w w3 := ⟨_, rfl, k0.put 0 [.int .i64 0, .slice none 0 0, .slice none 0 0, .slice none 0 0, .int .i64 0, .slice none 0 0, .int .i64 0, .slice none 0 0, .int .i64 0, .int .i64 0, .string ⟨#[]⟩, .int .i64 0, .string ⟨#[]⟩, .slice none 0 0, .slice none 0 0, .slice none 0 0, .slice none 0 0] #[.int .i64 0, .slice none 0 0, .slice none 0 0, .slice none 0 0, .int .i64 0, .slice none 0 0, .int .i64 0, .slice none 0 0, .int .i64 0, .int .i64 0, .string ⟨#[]⟩, .int .i64 0, .string ⟨#[]⟩, .slice none 0 0, .slice none 0 0, .slice none 0 0, .slice none 0 0] (by simp) rfl, ext_setCells (W := w) (g := w.heap.size) (Nat.le_refl _) [.int .i64 0, .slice none 0 0, .slice none 0 0, .slice none 0 0, .int .i64 0, .slice none 0 0, .int .i64 0, .slice none 0 0, .int .i64 0, .int .i64 0, .string ⟨#[]⟩, .int .i64 0, .string ⟨#[]⟩, .slice none 0 0, .slice none 0 0, .slice none 0 0, .slice none 0 0] 0 _ he⟩
    have HW := Lib.hid hw3
    have TH := Lib.hid (k0.there 0 17 (by simp))
    have Y0 := Lib.hid y0; have YE := Lib.hid ye
    clear hw3 y0 ye k0 he
    go_wp2_with (refine wpList_store_list rfl 80 _ _ rfl rfl w.heap.size 0 [.int .i64 0, .slice none 0 0, .slice none 0 0, .slice none 0 0, .int .i64 0, .slice none 0 0, .int .i64 0, .slice none 0 0, .int .i64 0, .int .i64 0, .string ⟨#[]⟩, .int .i64 0, .string ⟨#[]⟩, .slice none 0 0, .slice none 0 0, .slice none 0 0, .slice none 0 0] rfl rfl TH.out (by kernel_rfl) (by rfl) ?_; rw [← HW.out])
    exact ret_row_tmp rfl rfl Y0.out Tryz.underlying80 rfl (by kernel_rfl) rfl ⟨rfl, YE.out⟩
  · have BN := Lib.hid (fun W => specBrokerNew_yes n W b1)
    have hnb : namesB l = false := by rw [b1, Bool.true_and] at ho; exact ho
    have Hnb := Lib.hid hnb
    go_enter Tryz.func35, Tryz.ntmps35
    go_wp2_with fail
    obtain ⟨h, hh⟩ : ∃ h, h = newH true n := ⟨_, rfl⟩
    have Hh := Lib.hid hh; clear hh
    rw [← Hh.out] at BN
    refine (BN.out _).mono ?_
    rintro e w1 ⟨q, rfl, hq, kq, h1⟩
    simp only [brokNC]
    have k0 := K0.out.ext h1; have he := He.out.next h1
    have hgl := k0.lt
    clear h1 K0 He BN
    go_upto_region 2 with fail
    replace k0 := k0.alloc (.cells #[.int .i64 n, .slice none 0 0, .slice none 0 0, .slice (some ⟨q, 0, none⟩) 1 1, .int .i64 0, .slice none 0 0, .int .i64 0, .slice none 0 0, .int .i64 h.number, .int .i64 h.size, .string h.root, .int .i64 h.taken, .string h.takenRoot] 37)
    replace he := he.new (.cells #[.int .i64 n, .slice none 0 0, .slice none 0 0, .slice (some ⟨q, 0, none⟩) 1 1, .int .i64 0, .slice none 0 0, .int .i64 0, .slice none 0 0, .int .i64 h.number, .int .i64 h.size, .string h.root, .int .i64 h.taken, .string h.takenRoot] 37)
    generalize w1.alloc (.cells #[.int .i64 n, .slice none 0 0, .slice none 0 0, .slice (some ⟨q, 0, none⟩) 1 1, .int .i64 0, .slice none 0 0, .int .i64 0, .slice none 0 0, .int .i64 h.number, .int .i64 h.size, .string h.root, .int .i64 h.taken, .string h.takenRoot] 37) = w2 at *
    go_wp2_with fail
    refine (specNamesOk_any A c l _ (HR.out.ext he) hok).mono ?_
    rintro e w2b ⟨rfl, h1⟩
    rw [Hnb.out]
    replace k0 := k0.ext h1; replace he := he.next h1
    clear h1
    obtain ⟨w3, hw3, y0, ye⟩ : ∃ w3, w3 = w2b.setCells w.heap.size 0 [.int .i64 0, .slice none 0 0, .slice none 0 0, .slice none 0 0, .int .i64 0, .slice none 0 0, .int .i64 0, .slice none 0 0, .int .i64 0, .int .i64 0, .string ⟨#[]⟩, .int .i64 0, .string ⟨#[]⟩, .slice none 0 0, .slice none 0 0, .slice none 0 0, .slice none 0 0] ∧ Blk w3 w.heap.size 80 #[.int .i64 0, .slice none 0 0, .slice none 0 0, .slice none 0 0, .int .i64 0, .slice none 0 0, .int .i64 0, .slice none 0 0, .int .i64 0, .int .i64 0, .string ⟨#[]⟩, .int .i64 0, .string ⟨#[]⟩, .slice none 0 0, .slice none 0 0, .slice none 0 0, .slice none 0 0] ∧ Ext w w3 := ⟨_, rfl, k0.put 0 [.int .i64 0, .slice none 0 0, .slice none 0 0, .slice none 0 0, .int .i64 0, .slice none 0 0, .int .i64 0, .slice none 0 0, .int .i64 0, .int .i64 0, .string ⟨#[]⟩, .int .i64 0, .string ⟨#[]⟩, .slice none 0 0, .slice none 0 0, .slice none 0 0, .slice none 0 0] #[.int .i64 0, .slice none 0 0, .slice none 0 0, .slice none 0 0, .int .i64 0, .slice none 0 0, .int .i64 0, .slice none 0 0, .int .i64 0, .int .i64 0, .string ⟨#[]⟩, .int .i64 0, .string ⟨#[]⟩, .slice none 0 0, .slice none 0 0, .slice none 0 0, .slice none 0 0] (by simp) rfl, ext_setCells (W := w) (g := w.heap.size) (Nat.le_refl _) [.int .i64 0, .slice none 0 0, .slice none 0 0, .slice none 0 0, .int .i64 0, .slice none 0 0, .int .i64 0, .slice none 0 0, .int .i64 0, .int .i64 0, .string ⟨#[]⟩, .int .i64 0, .string ⟨#[]⟩, .slice none 0 0, .slice none 0 0, .slice none 0 0, .slice none 0 0] 0 _ he⟩
    have HW := Lib.hid hw3
    have TH := Lib.hid (k0.there 0 17 (by simp))
    have Y0 := Lib.hid y0; have YE := Lib.hid ye
    clear hw3 y0 ye k0 he
    go_wp2_with (refine wpList_store_list rfl 80 _ _ rfl rfl w.heap.size 0 [.int .i64 0, .slice none 0 0, .slice none 0 0, .slice none 0 0, .int .i64 0, .slice none 0 0, .int .i64 0, .slice none 0 0, .int .i64 0, .int .i64 0, .string ⟨#[]⟩, .int .i64 0, .string ⟨#[]⟩, .slice none 0 0, .slice none 0 0, .slice none 0 0, .slice none 0 0] rfl rfl TH.out (by kernel_rfl) (by rfl) ?_; rw [← HW.out])
    exact ret_row_tmp rfl rfl Y0.out Tryz.underlying80 rfl (by kernel_rfl) rfl ⟨rfl, YE.out⟩
set_option maxHeartbeats 4000000 in
set_option maxRecDepth 100000 in
theorem specWorldNew_yes (n : Int) (A : Option Addr) (c : Nat) (l : List ByteArray) (w : World) (hr : SlF AnyB sone 1 w A l c) (hok : ∀ s ∈ l, s.size ≤ maxLen) (hy : (inR n 1 32 && namesB l) = true) :
    Calls Tryz.prog 35 #[.int .i64 n, .slice A l.length c] w fun e w' => ∃ vh vd vc, e = .returned (.tuple #[.agg (worldC n vh vd vc (newH true n)).toArray, .bool true]) ∧ WRows w.heap.size w' vh vd vc (hsOf true n) (dsOf true) (csOf true n l) ∧ Ext w w' := by
  have K0 := Lib.hid (Blk.new w 80 #[.int .i64 0, .slice none 0 0, .slice none 0 0, .slice none 0 0, .int .i64 0, .slice none 0 0, .int .i64 0, .slice none 0 0, .int .i64 0, .int .i64 0, .string ⟨#[]⟩, .int .i64 0, .string ⟨#[]⟩, .slice none 0 0, .slice none 0 0, .slice none 0 0, .slice none 0 0])
  have He := Lib.hid (Ext.new (Below.refl w.heap.size w) (.cells #[.int .i64 0, .slice none 0 0, .slice none 0 0, .slice none 0 0, .int .i64 0, .slice none 0 0, .int .i64 0, .slice none 0 0, .int .i64 0, .int .i64 0, .string ⟨#[]⟩, .int .i64 0, .string ⟨#[]⟩, .slice none 0 0, .slice none 0 0, .slice none 0 0, .slice none 0 0] 80))
  have HR := Lib.hid hr
  have hle := hr.le
  have hcm := hr.cap
  unfold maxLen at hcm
  obtain ⟨hw, h4, hall⟩ := names_ok hy
  have hnb : namesB l = true := by rw [hw, Bool.true_and] at hy; exact hy
  have Hnb := Lib.hid hnb; clear hnb
  have Hall := Lib.hid hall; clear hall
  obtain ⟨i0, hi0, hz0, hz1, hz2⟩ := info_parts info_client
  obtain ⟨h, hh⟩ : ∃ h, h = newH true n := ⟨_, rfl⟩
  have Hh := Lib.hid hh; clear hh
  have BN := Lib.hid (fun W => specBrokerNew_yes n W hw)
  rw [← Hh.out] at BN ⊢
  go_enter Tryz.func35, Tryz.ntmps35
  go_wp2_with fail
  obtain ⟨g, hg⟩ : ∃ g, g = w.heap.size := ⟨_, rfl⟩
  rw [← hg] at K0
  rw [← hg]
  have hg0 : w.heap.size ≤ g := by omega
  clear hg
  refine (BN.out _).mono ?_
  rintro e w1 ⟨q, rfl, hq, kq, h1⟩
  simp only [brokNC]
  have k0 := K0.out.ext h1; have he := He.out.next h1
  have hgl := k0.lt
  have hqw : w.heap.size ≤ q := by simp at hq; omega
  clear h1 K0 He BN hq
  go_upto_region 2 with fail
  have kb := Blk.new w1 37 #[.int .i64 n, .slice none 0 0, .slice none 0 0, .slice (some ⟨q, 0, none⟩) 1 1, .int .i64 0, .slice none 0 0, .int .i64 0, .slice none 0 0, .int .i64 h.number, .int .i64 h.size, .string h.root, .int .i64 h.taken, .string h.takenRoot]
  replace k0 := k0.alloc (.cells #[.int .i64 n, .slice none 0 0, .slice none 0 0, .slice (some ⟨q, 0, none⟩) 1 1, .int .i64 0, .slice none 0 0, .int .i64 0, .slice none 0 0, .int .i64 h.number, .int .i64 h.size, .string h.root, .int .i64 h.taken, .string h.takenRoot] 37)
  replace kq := kq.alloc (.cells #[.int .i64 n, .slice none 0 0, .slice none 0 0, .slice (some ⟨q, 0, none⟩) 1 1, .int .i64 0, .slice none 0 0, .int .i64 0, .slice none 0 0, .int .i64 h.number, .int .i64 h.size, .string h.root, .int .i64 h.taken, .string h.takenRoot] 37)
  replace he := he.new (.cells #[.int .i64 n, .slice none 0 0, .slice none 0 0, .slice (some ⟨q, 0, none⟩) 1 1, .int .i64 0, .slice none 0 0, .int .i64 0, .slice none 0 0, .int .i64 h.number, .int .i64 h.size, .string h.root, .int .i64 h.taken, .string h.takenRoot] 37)
  obtain ⟨gb, hgb⟩ : ∃ gb, gb = w1.heap.size := ⟨_, rfl⟩
  rw [← hgb] at kb hgl
  rw [← hgb]
  clear hgb
  generalize w1.alloc (.cells #[.int .i64 n, .slice none 0 0, .slice none 0 0, .slice (some ⟨q, 0, none⟩) 1 1, .int .i64 0, .slice none 0 0, .int .i64 0, .slice none 0 0, .int .i64 h.number, .int .i64 h.size, .string h.root, .int .i64 h.taken, .string h.takenRoot] 37) = w2 at *
  go_wp2_with fail
  refine (specNamesOk_any A c l _ (HR.out.ext he) hok).mono ?_
  rintro e w3 ⟨rfl, h1⟩
  rw [Hnb.out]
  replace k0 := k0.ext h1; replace he := he.next h1; replace kb := kb.ext h1; replace kq := kq.ext h1
  clear h1
  have hw3 := he.size
  have hg3 := k0.lt
  have hq3 := kq.lt
  go_upto_region 4 with fail
  refine wp_region_any (by kernel_rfl) ?_
  change wpAny _ _ _ _ _ _ _ (World.drew _)
  refine wpAny_bunch [(0, some 25), (1, some 26), (2, some 27), (3, some 28), (4, some 8)] (fun i v w' => match i with
    | 0 => v = .agg #[.int .i64 n, .slice none 0 0, .slice none 0 0, .slice (some ⟨q, 0, none⟩) 1 1, .int .i64 0, .slice none 0 0, .int .i64 0, .slice none 0 0, .int .i64 h.number, .int .i64 h.size, .string h.root, .int .i64 h.taken, .string h.takenRoot]
    | 1 => v = .agg #[.int .i64 n, .slice none 0 0, .slice none 0 0, .slice (some ⟨q, 0, none⟩) 1 1, .int .i64 0, .slice none 0 0, .int .i64 0, .slice none 0 0, .int .i64 h.number, .int .i64 h.size, .string h.root, .int .i64 h.taken, .string h.takenRoot]
    | 2 => ∃ vd, v = .agg #[vd] ∧ w'.ownsRow w3.heap.size 9 1 vd 3 (emptys 3)
    | 3 => ∃ vd, v = .agg #[.int .i64 n, .slice none 0 0, .slice none 0 0, .slice (some ⟨q, 0, none⟩) 1 1, .int .i64 0, .slice none 0 0, .int .i64 0, .slice none 0 0, .int .i64 h.number, .int .i64 h.size, .string h.root, .int .i64 h.taken, .string h.takenRoot, vd, .slice none 0 0, .slice none 0 0, .slice none 0 0] ∧ w'.ownsRow w3.heap.size 9 1 vd 3 (emptys 3)
    | 4 => ∃ G, v = .pointer (some ⟨G, 0, none⟩) ∧ Blk w' G 80 #[.int .i64 0, .slice none 0 0, .slice none 0 0, .slice none 0 0, .int .i64 0, .slice none 0 0, .int .i64 0, .slice none 0 0, .int .i64 0, .int .i64 0, .string ⟨#[]⟩, .int .i64 0, .string ⟨#[]⟩, .slice none 0 0, .slice none 0 0, .slice none 0 0, .slice none 0 0] ∧ w3.heap.size ≤ G
    | _ => True) (fun w' => Blk w' g 80 #[.int .i64 0, .slice none 0 0, .slice none 0 0, .slice none 0 0, .int .i64 0, .slice none 0 0, .int .i64 0, .slice none 0 0, .int .i64 0, .int .i64 0, .string ⟨#[]⟩, .int .i64 0, .string ⟨#[]⟩, .slice none 0 0, .slice none 0 0, .slice none 0 0, .slice none 0 0] ∧ Blk w' gb 37 #[.int .i64 n, .slice none 0 0, .slice none 0 0, .slice (some ⟨q, 0, none⟩) 1 1, .int .i64 0, .slice none 0 0, .int .i64 0, .slice none 0 0, .int .i64 h.number, .int .i64 h.size, .string h.root, .int .i64 h.taken, .string h.takenRoot] ∧ Blk w' q 33 h.cells.toArray ∧ Ext w w' ∧ w3.heap.size ≤ w'.heap.size) (fun w1 w2 => Ext w1 w2) (n := 1) (by kernel_rfl) (by rfl) (fun _ a b _ e h => by cases a; cases b; cases e; exact h) ?hR ⟨k0.drew, kb.drew, kq.drew, he.drew, Nat.le_refl _⟩ ?hst ?hend
  case hR =>
    intro j v wa wb hx h
    split
    · exact h
    · exact h
    · obtain ⟨vd, h1, h2⟩ := h; exact ⟨vd, h1, ownsRow_ext h2 hx⟩
    · obtain ⟨vd, h1, h2⟩ := h; exact ⟨vd, h1, ownsRow_ext h2 hx⟩
    · obtain ⟨G, h1, h2, h3⟩ := h; exact ⟨G, h1, h2.ext hx, h3⟩
    · trivial
  case hst =>
    clear k0 kb kq he
    refine BunchAll.cons [] (o := _) rfl rfl rfl (by kernel_rfl) (fun vals u hv hS K' hK => ?_) ?_
    · clear hv
      have R := Blk.range hS.2.1
      refine ⟨?_⟩
      (try simp only [fillA, Act.put, List.setIfInBounds_toArray, List.set_cons_zero, List.set_cons_succ] at hK ⊢)
      rw [if_pos (by rfl)]
      refine wp_load_mid 37 _ rfl gb 0 rfl [.int .i64 n, .slice none 0 0, .slice none 0 0, .slice (some ⟨q, 0, none⟩) 1 1, .int .i64 0, .slice none 0 0, .int .i64 0, .slice none 0 0, .int .i64 h.number, .int .i64 h.size, .string h.root, .int .i64 h.taken, .string h.takenRoot] _ R Tryz.underlying37 rfl (by kernel_rfl) ?_
      exact hK.out _ _ ⟨_, rfl, rfl⟩ hS (Below.refl _ _)
    refine BunchAll.cons [] (o := _) rfl rfl rfl (by kernel_rfl) (fun vals u hv hS K' hK => ?_) ?_
    · clear hv
      have R := Blk.range hS.2.1
      refine ⟨?_⟩
      (try simp only [fillA, Act.put, List.setIfInBounds_toArray, List.set_cons_zero, List.set_cons_succ] at hK ⊢)
      rw [if_pos (by rfl)]
      refine wp_load_mid 37 _ rfl gb 0 rfl [.int .i64 n, .slice none 0 0, .slice none 0 0, .slice (some ⟨q, 0, none⟩) 1 1, .int .i64 0, .slice none 0 0, .int .i64 0, .slice none 0 0, .int .i64 h.number, .int .i64 h.size, .string h.root, .int .i64 h.taken, .string h.takenRoot] _ R Tryz.underlying37 rfl (by kernel_rfl) ?_
      exact hK.out _ _ ⟨_, rfl, rfl⟩ hS (Below.refl _ _)
    refine BunchAll.cons [1] (o := _) rfl rfl rfl (by kernel_rfl) (fun vals u hv hS K' hK => ?_) ?_
    · obtain ⟨hv, _⟩ := hv
      simp only at hv
      refine ⟨?_⟩
      (try simp only [fillA, Act.put, List.setIfInBounds_toArray, List.set_cons_zero, List.set_cons_succ] at hK ⊢)
      rw [hv] at hK ⊢
      clear hv
      go_simp
      refine (l12Disk_new n q h _).mono ?_
      rintro e u2 ⟨vd, rfl, od, h1⟩
      (try go_wp2_with fail)
      exact hK.out _ _ ⟨_, rfl, vd, rfl, ownsRow_base od hS.2.2.2.2⟩ ⟨hS.1.ext h1, hS.2.1.ext h1, hS.2.2.1.ext h1, hS.2.2.2.1.next h1, Nat.le_trans hS.2.2.2.2 h1.size⟩ h1
    refine BunchAll.cons [0, 2] (o := _) rfl rfl rfl (by kernel_rfl) (fun vals u hv hS K' hK => ?_) ?_
    · obtain ⟨hv0, ⟨vd, hv2, od⟩, _⟩ := hv
      simp only at hv0 hv2
      obtain ⟨Vd, cd, rfl, _⟩ := ownsRow_form od
      have F := hK.out _ u ⟨.agg #[.int .i64 n, .slice none 0 0, .slice none 0 0, .slice (some ⟨q, 0, none⟩) 1 1, .int .i64 0, .slice none 0 0, .int .i64 0, .slice none 0 0, .int .i64 h.number, .int .i64 h.size, .string h.root, .int .i64 h.taken, .string h.takenRoot, .slice Vd 3 cd, .slice none 0 0, .slice none 0 0, .slice none 0 0], rfl, _, rfl, od⟩ hS (Below.refl _ _)
      refine ⟨?_⟩
      (try simp only [fillA, Act.put, List.setIfInBounds_toArray, List.set_cons_zero, List.set_cons_succ] at hK F ⊢)
      rw [hv0, hv2] at hK F ⊢
      clear hv0 hv2
      go_simp
      exact F
    refine BunchAll.cons [] (o := _) rfl rfl rfl (by kernel_rfl) (fun vals u hv hS K' hK => ?_) ?_
    · clear hv
      have h1 := Ext.new (Below.refl u.heap.size u) (.cells #[.int .i64 0, .slice none 0 0, .slice none 0 0, .slice none 0 0, .int .i64 0, .slice none 0 0, .int .i64 0, .slice none 0 0, .int .i64 0, .int .i64 0, .string ⟨#[]⟩, .int .i64 0, .string ⟨#[]⟩, .slice none 0 0, .slice none 0 0, .slice none 0 0, .slice none 0 0] 80)
      have F := hK.out _ (u.alloc (.cells #[.int .i64 0, .slice none 0 0, .slice none 0 0, .slice none 0 0, .int .i64 0, .slice none 0 0, .int .i64 0, .slice none 0 0, .int .i64 0, .int .i64 0, .string ⟨#[]⟩, .int .i64 0, .string ⟨#[]⟩, .slice none 0 0, .slice none 0 0, .slice none 0 0, .slice none 0 0] 80)) ⟨_, rfl, u.heap.size, rfl, Blk.new _ _ _, hS.2.2.2.2⟩ ⟨hS.1.ext h1, hS.2.1.ext h1, hS.2.2.1.ext h1, hS.2.2.2.1.next h1, Nat.le_trans hS.2.2.2.2 h1.size⟩ h1
      refine ⟨?_⟩
      (try simp only [fillA, Act.put, List.setIfInBounds_toArray, List.set_cons_zero, List.set_cons_succ] at hK F ⊢)
      go_simp
      exact F
    exact BunchAll.nil
  intro vals w4 hv hS
  obtain ⟨hv0, hv1, ⟨_, hv2, _⟩, ⟨vd, hv3, od⟩, ⟨G, hv4, kG, hG⟩, _⟩ := hv
  simp only at hv0 hv1 hv2 hv3 hv4
  (try simp only [fillA, Act.put, List.setIfInBounds_toArray, List.set_cons_zero, List.set_cons_succ])
  rw [hv0, hv1, hv2, hv3, hv4]
  clear hv0 hv1 hv2 hv3 hv4
  obtain ⟨k0, kb, kq, he, hs4⟩ := hS
  obtain ⟨Vd, cd, rfl, _⟩ := ownsRow_form od
  obtain ⟨w5, hw5, y0, yG, yr, ye⟩ : ∃ w5, w5 = w4.setCells G 0 [.int .i64 n, .slice none 0 0, .slice none 0 0, .slice (some ⟨q, 0, none⟩) 1 1, .int .i64 0, .slice none 0 0, .int .i64 0, .slice none 0 0, .int .i64 h.number, .int .i64 h.size, .string h.root, .int .i64 h.taken, .string h.takenRoot, .slice Vd 3 cd, .slice none 0 0, .slice none 0 0, .slice none 0 0] ∧ Blk w5 g 80 #[.int .i64 0, .slice none 0 0, .slice none 0 0, .slice none 0 0, .int .i64 0, .slice none 0 0, .int .i64 0, .slice none 0 0, .int .i64 0, .int .i64 0, .string ⟨#[]⟩, .int .i64 0, .string ⟨#[]⟩, .slice none 0 0, .slice none 0 0, .slice none 0 0, .slice none 0 0] ∧ Blk w5 G 80 #[.int .i64 n, .slice none 0 0, .slice none 0 0, .slice (some ⟨q, 0, none⟩) 1 1, .int .i64 0, .slice none 0 0, .int .i64 0, .slice none 0 0, .int .i64 h.number, .int .i64 h.size, .string h.root, .int .i64 h.taken, .string h.takenRoot, .slice Vd 3 cd, .slice none 0 0, .slice none 0 0, .slice none 0 0] ∧ WRows w.heap.size w5 (.slice (some ⟨q, 0, none⟩) 1 1) (.slice Vd 3 cd) (.slice none 0 0) [h] [⟨#[]⟩, ⟨#[]⟩, ⟨#[]⟩] ((l.take 0).map (cliZ n)) ∧ Ext w w5 := by
    have hgG : g ≠ G := by have := k0.lt; omega
    have hR : WRows w.heap.size w4 (.slice (some ⟨q, 0, none⟩) 1 1) (.slice Vd 3 cd) (.slice none 0 0) [h] [⟨#[]⟩, ⟨#[]⟩, ⟨#[]⟩] ((l.take 0).map (cliZ n)) :=
      ⟨by have := kq.ownsRow 1 5 w.heap.size hqw rfl (by unfold maxLen; omega); simpa [HeadD.cells] using this, ownsRow_base od hw3, World.ownsRow_nil _ _ _ _, (fun x h1 h2 => by simp [Value.ownBlock] at h1; have := (od.lt x h2).1; omega), (fun x h1 h2 => by cases h2), (fun x h1 h2 => by cases h2)⟩
    exact ⟨_, rfl, k0.farCells hgG _ 0, kG.put 0 [.int .i64 n, .slice none 0 0, .slice none 0 0, .slice (some ⟨q, 0, none⟩) 1 1, .int .i64 0, .slice none 0 0, .int .i64 0, .slice none 0 0, .int .i64 h.number, .int .i64 h.size, .string h.root, .int .i64 h.taken, .string h.takenRoot, .slice Vd 3 cd, .slice none 0 0, .slice none 0 0, .slice none 0 0] #[.int .i64 n, .slice none 0 0, .slice none 0 0, .slice (some ⟨q, 0, none⟩) 1 1, .int .i64 0, .slice none 0 0, .int .i64 0, .slice none 0 0, .int .i64 h.number, .int .i64 h.size, .string h.root, .int .i64 h.taken, .string h.takenRoot, .slice Vd 3 cd, .slice none 0 0, .slice none 0 0, .slice none 0 0] (by simp) rfl, hR.farT kG _ 0, ext_setCells (W := w) (g := G) (by omega) [.int .i64 n, .slice none 0 0, .slice none 0 0, .slice (some ⟨q, 0, none⟩) 1 1, .int .i64 0, .slice none 0 0, .int .i64 0, .slice none 0 0, .int .i64 h.number, .int .i64 h.size, .string h.root, .int .i64 h.taken, .string h.takenRoot, .slice Vd 3 cd, .slice none 0 0, .slice none 0 0, .slice none 0 0] 0 _ he⟩
  have HW := Lib.hid hw5
  have TH := Lib.hid (kG.there 0 17 (by simp))
  have Y0 := Lib.hid y0; have YG := Lib.hid yG; have YR := Lib.hid yr; have YE := Lib.hid ye
  clear hw5 y0 yG yr ye k0 kb kq he kG od
  refine oneA 5 (oi := _) none (by kernel_rfl) rfl rfl rfl (fun K' hK => ?_)
  refine ⟨?_⟩; rw [if_pos (by rfl)]
  refine wp_store_lst 80 _ _ (by rfl) (by rfl) G 0 [.int .i64 n, .slice none 0 0, .slice none 0 0, .slice (some ⟨q, 0, none⟩) 1 1, .int .i64 0, .slice none 0 0, .int .i64 0, .slice none 0 0, .int .i64 h.number, .int .i64 h.size, .string h.root, .int .i64 h.taken, .string h.takenRoot, .slice Vd 3 cd, .slice none 0 0, .slice none 0 0, .slice none 0 0] (by rfl) (by rfl) TH.out (by kernel_rfl) (by rfl) ?_
  rw [← HW.out]
  refine hK.out _ _ ⟨undef, rfl⟩ ?_
  clear hK K' TH HW
  refine wpAny_done (by kernel_rfl) ?_ _
  (try simp only [fillA, Act.put, List.setIfInBounds_toArray, List.set_cons_zero, List.set_cons_succ])
  go_wp2_with fail
  go_loopw [9] (fun i wr => ∃ (k : Nat) (vc : Value), k ≤ l.length ∧ i = .int .i64 k ∧ Blk wr g 80 #[.int .i64 0, .slice none 0 0, .slice none 0 0, .slice none 0 0, .int .i64 0, .slice none 0 0, .int .i64 0, .slice none 0 0, .int .i64 0, .int .i64 0, .string ⟨#[]⟩, .int .i64 0, .string ⟨#[]⟩, .slice none 0 0, .slice none 0 0, .slice none 0 0, .slice none 0 0] ∧ Blk wr G 80 #[.int .i64 n, .slice none 0 0, .slice none 0 0, .slice (some ⟨q, 0, none⟩) 1 1, .int .i64 0, .slice none 0 0, .int .i64 0, .slice none 0 0, .int .i64 h.number, .int .i64 h.size, .string h.root, .int .i64 h.taken, .string h.takenRoot, .slice Vd 3 cd, vc, .slice none 0 0, .slice none 0 0] ∧ WRows w.heap.size wr (.slice (some ⟨q, 0, none⟩) 1 1) (.slice Vd 3 cd) vc [h] [⟨#[]⟩, ⟨#[]⟩, ⟨#[]⟩] ((l.take k).map (cliZ n)) ∧ Ext w wr) (fun i _ => l.length - (intOf i).toNat)
  case atStart => exact ⟨0, _, Nat.zero_le _, rfl, Y0.out, YG.out, YR.out, YE.out⟩
  case round =>
    clear Y0 YG YR YE
    obtain ⟨k, vc, hk, rfl, hA, hB, hT, he⟩ := hrel
    have hcl : ((l.take k).map (cliZ n)).length = k := by simp; omega
    obtain ⟨V0, cv0, rfl, hnc0⟩ := ownsRow_form hT.c
    rw [hcl] at hB hT
    rw [hcl] at hnc0
    have KA := Lib.hid hA; have KB := Lib.hid hB; have KT := Lib.hid hT
    clear hA hT
    by_cases hlt : k < l.length
    case neg =>
      obtain rfl : k = l.length := by omega
      obtain ⟨w6, hw6, y0, yr, ye⟩ : ∃ w6, w6 = wr.setCells g 0 [.int .i64 n, .slice none 0 0, .slice none 0 0, .slice (some ⟨q, 0, none⟩) 1 1, .int .i64 0, .slice none 0 0, .int .i64 0, .slice none 0 0, .int .i64 h.number, .int .i64 h.size, .string h.root, .int .i64 h.taken, .string h.takenRoot, .slice Vd 3 cd, .slice V0 l.length cv0, .slice none 0 0, .slice none 0 0] ∧ Blk w6 g 80 #[.int .i64 n, .slice none 0 0, .slice none 0 0, .slice (some ⟨q, 0, none⟩) 1 1, .int .i64 0, .slice none 0 0, .int .i64 0, .slice none 0 0, .int .i64 h.number, .int .i64 h.size, .string h.root, .int .i64 h.taken, .string h.takenRoot, .slice Vd 3 cd, .slice V0 l.length cv0, .slice none 0 0, .slice none 0 0] ∧ WRows w.heap.size w6 (.slice (some ⟨q, 0, none⟩) 1 1) (.slice Vd 3 cd) (.slice V0 l.length cv0) (hsOf true n) (dsOf true) (csOf true n l) ∧ Ext w w6 :=
        ⟨_, rfl, KA.out.put 0 [.int .i64 n, .slice none 0 0, .slice none 0 0, .slice (some ⟨q, 0, none⟩) 1 1, .int .i64 0, .slice none 0 0, .int .i64 0, .slice none 0 0, .int .i64 h.number, .int .i64 h.size, .string h.root, .int .i64 h.taken, .string h.takenRoot, .slice Vd 3 cd, .slice V0 l.length cv0, .slice none 0 0, .slice none 0 0] #[.int .i64 n, .slice none 0 0, .slice none 0 0, .slice (some ⟨q, 0, none⟩) 1 1, .int .i64 0, .slice none 0 0, .int .i64 0, .slice none 0 0, .int .i64 h.number, .int .i64 h.size, .string h.root, .int .i64 h.taken, .string h.takenRoot, .slice Vd 3 cd, .slice V0 l.length cv0, .slice none 0 0, .slice none 0 0] (by simp) rfl, by
          have := KT.out.farT KA.out [.int .i64 n, .slice none 0 0, .slice none 0 0, .slice (some ⟨q, 0, none⟩) 1 1, .int .i64 0, .slice none 0 0, .int .i64 0, .slice none 0 0, .int .i64 h.number, .int .i64 h.size, .string h.root, .int .i64 h.taken, .string h.takenRoot, .slice Vd 3 cd, .slice V0 l.length cv0, .slice none 0 0, .slice none 0 0] 0
          rw [List.take_length] at this
          simpa [hsOf, dsOf, csOf, ← Hh.out] using this, ext_setCells (W := w) (g := g) hg0 [.int .i64 n, .slice none 0 0, .slice none 0 0, .slice (some ⟨q, 0, none⟩) 1 1, .int .i64 0, .slice none 0 0, .int .i64 0, .slice none 0 0, .int .i64 h.number, .int .i64 h.size, .string h.root, .int .i64 h.taken, .string h.takenRoot, .slice Vd 3 cd, .slice V0 l.length cv0, .slice none 0 0, .slice none 0 0] 0 _ he⟩
      have HW := Lib.hid hw6
      have TH := Lib.hid (KA.out.there 0 17 (by simp))
      have RG : Hid (wr.rangeAt G 0 [.int .i64 n, .slice none 0 0, .slice none 0 0, .slice (some ⟨q, 0, none⟩) 1 1, .int .i64 0, .slice none 0 0, .int .i64 0, .slice none 0 0, .int .i64 h.number, .int .i64 h.size, .string h.root, .int .i64 h.taken, .string h.takenRoot, .slice Vd 3 cd, .slice V0 l.length cv0, .slice none 0 0, .slice none 0 0]) := Lib.hid (Blk.range KB.out)
      have Z0 := Lib.hid y0; have ZR := Lib.hid yr; have ZE := Lib.hid ye
      clear hw6 y0 yr ye hB KA KB KT he
      go_wp2_with (first | (refine wpList_load_mid rfl 80 _ rfl G 0 rfl [.int .i64 n, .slice none 0 0, .slice none 0 0, .slice (some ⟨q, 0, none⟩) 1 1, .int .i64 0, .slice none 0 0, .int .i64 0, .slice none 0 0, .int .i64 h.number, .int .i64 h.size, .string h.root, .int .i64 h.taken, .string h.takenRoot, .slice Vd 3 cd, .slice V0 l.length cv0, .slice none 0 0, .slice none 0 0] _ RG.out Tryz.underlying80 rfl (by kernel_rfl) ?_) | (refine wpList_store_list rfl 80 _ _ rfl rfl g 0 [.int .i64 n, .slice none 0 0, .slice none 0 0, .slice (some ⟨q, 0, none⟩) 1 1, .int .i64 0, .slice none 0 0, .int .i64 0, .slice none 0 0, .int .i64 h.number, .int .i64 h.size, .string h.root, .int .i64 h.taken, .string h.takenRoot, .slice Vd 3 cd, .slice V0 l.length cv0, .slice none 0 0, .slice none 0 0] rfl rfl TH.out (by kernel_rfl) (by rfl) ?_; rw [← HW.out]))
      exact ret_row_tmp rfl rfl Z0.out Tryz.underlying80 rfl (by kernel_rfl) rfl ⟨_, _, _, rfl, ZR.out, ZE.out⟩
    obtain ⟨b, off, rfl, hb, hc⟩ := Reads.at_ (HR.out.ext he).reads (k := k) hlt
    obtain ⟨d, hd⟩ : ∃ d, d = l[k] := ⟨_, rfl⟩
    have hdl : l[k]? = some d := by rw [hd]; exact List.getElem?_eq_getElem hlt
    have hds := hok d (List.mem_of_getElem? hdl)
    have hn := Hall.out d (List.mem_of_getElem? hdl)
    have c0 := hc 0 _ (flat_at _ 1 sone_length l k 0 d hdl (by omega))
    rw [Nat.add_zero, Nat.mul_one] at c0
    have Hdl := Lib.hid hdl
    clear hc hd hdl
    have CC := Lib.hid (fun W => specClientNew_any n d W hds)
    simp only [newC_z hn, hn] at CC
    go_wp2_with fail
    refine (CC.out _).mono ?_
    rintro e w6 ⟨rfl, h1⟩
    replace he := he.next h1; replace KA := Lib.hid (KA.out.ext h1); have hB2 := KB.out.ext h1; replace KT := Lib.hid (KT.out.ext h1)
    clear h1 hB KB c0 CC
    have hgl := hB2.lt
    have e1 : (cliZ n d).cells = (#[.int .i64 n, .string d, .int .i64 h.number, .int .i64 h.size, .string h.root, .int .i64 h.taken, .string h.takenRoot, .slice none 0 0] : Array Value).toList := by rw [Hh.out]; rfl
    rw [e1]
    have X1 := Lib.hid e1
    clear e1
    go_upto_region 9 with fail
    have z1 := Blk.new w6 142 #[.int .i64 n, .string d, .int .i64 h.number, .int .i64 h.size, .string h.root, .int .i64 h.taken, .string h.takenRoot, .slice none 0 0]
    replace he := he.new (.cells #[.int .i64 n, .string d, .int .i64 h.number, .int .i64 h.size, .string h.root, .int .i64 h.taken, .string h.takenRoot, .slice none 0 0] 142); replace KA := Lib.hid (KA.out.alloc (.cells #[.int .i64 n, .string d, .int .i64 h.number, .int .i64 h.size, .string h.root, .int .i64 h.taken, .string h.takenRoot, .slice none 0 0] 142)); replace hB2 := hB2.alloc (.cells #[.int .i64 n, .string d, .int .i64 h.number, .int .i64 h.size, .string h.root, .int .i64 h.taken, .string h.takenRoot, .slice none 0 0] 142); replace KT := Lib.hid (KT.out.ext (Ext.new (Below.refl _ _) (.cells #[.int .i64 n, .string d, .int .i64 h.number, .int .i64 h.size, .string h.root, .int .i64 h.taken, .string h.takenRoot, .slice none 0 0] 142)))
    obtain ⟨q2, hq2⟩ : ∃ q2, q2 = w6.heap.size := ⟨_, rfl⟩
    rw [← hq2] at z1 hgl
    rw [← hq2]
    clear hq2
    generalize w6.alloc (.cells #[.int .i64 n, .string d, .int .i64 h.number, .int .i64 h.size, .string h.root, .int .i64 h.taken, .string h.takenRoot, .slice none 0 0] 142) = w7 at *
    obtain ⟨r0, f0⟩ := hB2.rules
    obtain ⟨r1, f1⟩ := z1.rules
    have hs7 := z1.lt
    have hs8 := he.size
    go_wp2_with (at_builtin; refine wpList_append_moved _ rfl _ _ 76 rfl w.heap.size 142 i0 _ 8 104 Tryz.underlying76 hi0 hz0 hz1 hz2 rfl (by decide) _ _ _ rfl (KT.out.c.alloc _) ⟨w7.heap.size, 0, none⟩ 1 1 (#[.int .i64 n, .string d, .int .i64 h.number, .int .i64 h.size, .string h.root, .int .i64 h.taken, .string h.takenRoot, .slice none 0 0] : Array Value).toList rfl rfl ?c1 ?c2 ?c3 ?c4 ?c5 ?_)
    case c2 => exact ⟨rfl, rfl, rfl, rfl, rfl, rfl, rfl, rfl⟩
    case c3 => unfold maxLen; omega
    case c4 => omega
    case c5 => simp; omega
    intro v' w8 hown' hfrm hmv
    obtain ⟨V2, cv2, rfl, hnc2⟩ := ownsRow_form hown'
    have L0 := Lib.hid KT.out.c.lt
    have KA8 := hfrm.blk (KA.out.alloc _) (fun e => ownsRow_ne KT.out.c KA.out (by decide) _ e rfl)
    have KB8 := hfrm.blk (hB2.alloc _) (fun e => ownsRow_ne KT.out.c hB2 (by decide) _ e rfl)
    have he8 : Ext w w8 := hfrm.toExt (he.new _) (fun x hx e => by have := (L0.out _ e).1; omega)
    have R8 := (KT.out.ext (Ext.new (Below.refl _ _) (.cells #[.int .i64 n, .string d, .int .i64 h.number, .int .i64 h.size, .string h.root, .int .i64 h.taken, .string h.takenRoot, .slice none 0 0] 142))).app (x := cliZ n d) (v' := .slice V2 (k + 1) cv2) (w' := w8) (by rw [X1.out, hcl]; simp only [List.map_take] at hown' ⊢; exact hown') hfrm (by simpa using hmv)
    obtain ⟨hkl, hkd⟩ := List.getElem?_eq_some_iff.1 Hdl.out
    have e2 : List.map (cliZ n) (List.take k l) ++ [cliZ n d] = List.map (cliZ n) (List.take (k + 1) l) := by rw [List.take_succ_eq_append_getElem hkl, hkd, List.map_append]; rfl
    rw [e2] at R8
    have hgG : g ≠ G := by
      intro e
      subst e
      have h1 : w8.heap[g]? = some (.cells _ _ _) := KA8
      have h2 : w8.heap[g]? = some (.cells _ _ _) := KB8
      rw [h1] at h2
      simp at h2
    have hGw : w.heap.size ≤ G := by omega
    obtain ⟨w9, hw9, Z0, Z1, ZR, ZE⟩ : ∃ w9, w9 = w8.setCell ⟨G, 14, none⟩ (.slice V2 (k + 1) cv2) ∧ Blk w9 g 80 #[.int .i64 0, .slice none 0 0, .slice none 0 0, .slice none 0 0, .int .i64 0, .slice none 0 0, .int .i64 0, .slice none 0 0, .int .i64 0, .int .i64 0, .string ⟨#[]⟩, .int .i64 0, .string ⟨#[]⟩, .slice none 0 0, .slice none 0 0, .slice none 0 0, .slice none 0 0] ∧ Blk w9 G 80 #[.int .i64 n, .slice none 0 0, .slice none 0 0, .slice (some ⟨q, 0, none⟩) 1 1, .int .i64 0, .slice none 0 0, .int .i64 0, .slice none 0 0, .int .i64 h.number, .int .i64 h.size, .string h.root, .int .i64 h.taken, .string h.takenRoot, .slice Vd 3 cd, .slice V2 (k + 1) cv2, .slice none 0 0, .slice none 0 0] ∧ WRows w.heap.size w9 (.slice (some ⟨q, 0, none⟩) 1 1) (.slice Vd 3 cd) (.slice V2 (k + 1) cv2) [h] [⟨#[]⟩, ⟨#[]⟩, ⟨#[]⟩] ((l.take (k + 1)).map (cliZ n)) ∧ Ext w w9 :=
      ⟨_, rfl, KA8.farCells (g' := G) hgG [.slice V2 (k + 1) cv2] 14, KB8.put 14 [.slice V2 (k + 1) cv2] #[.int .i64 n, .slice none 0 0, .slice none 0 0, .slice (some ⟨q, 0, none⟩) 1 1, .int .i64 0, .slice none 0 0, .int .i64 0, .slice none 0 0, .int .i64 h.number, .int .i64 h.size, .string h.root, .int .i64 h.taken, .string h.takenRoot, .slice Vd 3 cd, .slice V2 (k + 1) cv2, .slice none 0 0, .slice none 0 0] (by simp) rfl, R8.farT KB8 [.slice V2 (k + 1) cv2] 14, ext_setCells (W := w) (g := G) hGw [.slice V2 (k + 1) cv2] 14 _ he8⟩
    have HW := Lib.hid hw9
    obtain ⟨r8, f8⟩ := KB8.rules
    clear hw9 KA8 R8 hown' hfrm hmv he he8 KA KT hB2 z1 r0 f0 r1 f1 L0 hkd e2
    replace Z0 := Lib.hid Z0; replace Z1 := Lib.hid Z1; replace ZR := Lib.hid ZR
    go_wp2_with fail
    rw [← HW.out]
    go_roundw
    case rel => exact ⟨k + 1, _, by omega, by go_num, Z0.out, Z1.out, ZR.out, ZE⟩
    case measure => simp [intOf]; omega
end Go.Proofs.YtkcjhfidgnbdiaaGreat
