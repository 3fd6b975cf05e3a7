/-
  The cursor of a topic: plain, and walks. No condition.
-/
import Derived.Test.YtcpfgldcijkhlaaCursors
import Derived.Test.YtcpfgldcijkhlaaNClient
namespace Go.Proofs.Ytcpfgldcijkhlaa
open Go.RowKit
set_option linter.unusedVariables false

def curNext (l : List CursorD) (t : ByteArray) : Int := match l.find? (fun d => d.topic.toList == t.toList) with | some d => d.next | none => 0
def curLast (l : List CursorD) (t : ByteArray) : Int := match l.find? (fun d => d.topic.toList == t.toList) with | some d => d.last | none => -1
def NotYet (l : List CursorD) (t : ByteArray) (k : Nat) : Prop := ∀ j d, j < k → l[j]? = some d → (d.topic.toList == t.toList) = false
section
variable {l : List CursorD} {t : ByteArray} {k : Nat} {d : CursorD}
theorem NotYet.zero (l : List CursorD) (t : ByteArray) : NotYet l t 0 := fun j d h => absurd h (by omega)
theorem NotYet.next (h : NotYet l t k) (hd : l[k]? = some d) (hb : (d.topic.toList == t.toList) = false) : NotYet l t (k + 1) := fun j e hj he => by
  by_cases hjk : j = k
  · subst hjk; rw [hd] at he; cases he; exact hb
  · exact h j e (by omega) he
theorem NotYet.done (h : NotYet l t k) (hk : l.length ≤ k) : curNext l t = 0 ∧ curLast l t = -1 := by
  have : l.find? (fun d => d.topic.toList == t.toList) = none := by
    rw [List.find?_eq_none]
    intro x hx
    obtain ⟨j, hj⟩ := List.getElem?_of_mem hx
    have := h j x (by have := (List.getElem?_eq_some_iff.1 hj).1; omega) hj
    simp [this]
  rw [curNext, curLast, this]; exact ⟨rfl, rfl⟩
theorem NotYet.hit (h : NotYet l t k) (hd : l[k]? = some d) (hb : (d.topic.toList == t.toList) = true) : curNext l t = d.next ∧ curLast l t = d.last := by
  have : l.find? (fun d => d.topic.toList == t.toList) = some d := by
    rw [List.find?_eq_some_iff_getElem]
    obtain ⟨hk, he⟩ := List.getElem?_eq_some_iff.1 hd
    exact ⟨hb, k, hk, he, fun j hj => by rw [h j l[j] hj (List.getElem?_eq_getElem (by omega))]; rfl⟩
  rw [curNext, curLast, this]; exact ⟨rfl, rfl⟩
end
theorem cur_at {l : List CursorD} {w : World} {b off : Nat} {k : Nat} {d : CursorD} (hc : ∀ j u, (l.flatMap CursorD.cells)[k * 3 + j]? = some u → w.cell? ⟨b, off + k * 3 + j, none⟩ = some u) (hd : l[k]? = some d) :
    w.cell? ⟨b, off + k * 3, none⟩ = some (.string d.topic) ∧ w.cell? ⟨b, off + k * 3 + 1, none⟩ = some (.int .i64 d.next) ∧ w.cell? ⟨b, off + k * 3 + 2, none⟩ = some (.int .i64 d.last) :=
  ⟨hc 0 _ (flat_at _ 3 CursorD.cells_length l k 0 d hd (by omega)), hc 1 _ (flat_at _ 3 CursorD.cells_length l k 1 d hd (by omega)), hc 2 _ (flat_at _ 3 CursorD.cells_length l k 2 d hd (by omega))⟩
set_option maxHeartbeats 1000000 in
set_option maxRecDepth 100000 in
theorem cursorOf_any (A : Option Addr) (c : Nat) (l : List CursorD) (t : ByteArray) (w : World) (hr : ReadsL w w.heap.size CursorD.cells 3 A l) (hl : l.length ≤ 1048576) :
    Calls Try.prog 89 #[.slice A l.length c, .string t] w fun e w' => e = .returned (.tuple #[.int .i64 (curNext l t), .int .i64 (curLast l t)]) ∧ Ext w w' := by
  obtain ⟨x, hx⟩ : ∃ x, x = curNext l t := ⟨_, rfl⟩
  obtain ⟨y, hy⟩ : ∃ y, y = curLast l t := ⟨_, rfl⟩
  have HD : Hid (∀ k, NotYet l t k → l.length ≤ k → x = 0 ∧ y = -1) := Lib.hid (fun k h hk => by rw [hx, hy]; exact h.done hk)
  have HH : Hid (∀ k d, NotYet l t k → l[k]? = some d → (d.topic.toList == t.toList) = true → x = d.next ∧ y = d.last) := Lib.hid (fun k d h hd hb => by rw [hx, hy]; exact h.hit hd hb)
  rw [← hx, ← hy]
  clear hx hy
  go_enter Try.func89, Try.ntmps89
  go_wp2_with fail
  go_loopw [10] (fun i wr => ∃ (k : Nat), k ≤ l.length ∧ i = .int .i64 k ∧ NotYet l t k ∧ Ext w wr) (fun i _ => l.length - (intOf i).toNat)
  case atStart => exact ⟨0, Nat.zero_le _, rfl, NotYet.zero l t, Below.refl _ _⟩
  case round =>
    obtain ⟨k, hk, rfl, hn, he⟩ := hrel
    have KN := Lib.hid hn; clear hn
    by_cases hlt : k < l.length
    case neg =>
      obtain ⟨rfl, rfl⟩ := HD.out k KN.out (by omega)
      go_wp2_with fail
      go_ret2
      exact ⟨rfl, he⟩
    obtain ⟨b, off, rfl, hb, hc⟩ := Reads.at_ (hr.ext he) (k := k) hlt
    obtain ⟨d, hd⟩ : ∃ d, d = l[k] := ⟨_, rfl⟩
    have hdl : l[k]? = some d := by rw [hd]; exact List.getElem?_eq_getElem hlt
    obtain ⟨c0, c1, c2⟩ := cur_at hc hdl
    have Hdl := Lib.hid hdl
    clear hc hd hdl
    cases b1 : (d.topic.toList == t.toList)
    · have N := Lib.hid (KN.out.next Hdl.out b1)
      go_wp2_with fail
      go_roundw
      case rel => exact ⟨k + 1, by omega, by go_num, N.out, he.new _⟩
      case measure => simp [intOf]; omega
    · obtain ⟨rfl, rfl⟩ := HH.out k d KN.out Hdl.out b1
      go_wp2_with fail
      go_quiet (fail)
      go_wp2_with fail
      go_ret2
      exact ⟨rfl, (Ext.new he _).drewN _⟩
set_option maxHeartbeats 1000000 in
theorem implCursorOf_any (d : ClientD) (A0 : Option Addr) (c0 : Nat) (t : ByteArray) (w : World) (s0 : SlF AnyB CursorD.cells 3 w A0 d.cursors c0) (hl : d.cursors.length ≤ 1048576) :
    Calls Try.prog 22 #[.agg #[.int .i64 d.width, .string d.name, .int .i64 d.head.number, .int .i64 d.head.size, .string d.head.root, .int .i64 d.head.taken, .string d.head.takenRoot, .slice A0 d.cursors.length c0], .string t] w fun e w' => e = .returned (.tuple #[.int .i64 (curNext d.cursors t), .int .i64 (curLast d.cursors t)]) ∧ Ext w w' := by
  have S0 := Lib.hid s0; clear s0
  have he := Lib.hid (Ext.new (Below.refl w.heap.size w) (.cells #[.int .i64 d.width, .string d.name, .int .i64 d.head.number, .int .i64 d.head.size, .string d.head.root, .int .i64 d.head.taken, .string d.head.takenRoot, .slice A0 d.cursors.length c0] 49))
  go_enter Try.func22, Try.ntmps22
  go_wp2_with fail
  refine (cursorOf_any A0 c0 d.cursors t _ (S0.out.ext he.out).reads hl).mono ?_
  rintro e w1 ⟨rfl, h1⟩
  have he2 := he.out.next h1
  go_wp2_with fail
  go_ret2
  exact ⟨rfl, he2⟩
set_option maxHeartbeats 1000000 in
set_option maxRecDepth 100000 in
theorem l16Find_any (A : Option Addr) (c : Nat) (l : List CursorD) (t : ByteArray) (w : World) (hr : ReadsL w w.heap.size CursorD.cells 3 A l) (hl : l.length ≤ 1048576) :
    Calls Try.prog 86 #[.slice A l.length c, .string t] w fun e w' => ∃ s : ByteArray, e = .returned (.agg #[.string s, .int .i64 (curNext l t), .int .i64 (curLast l t)]) ∧ Ext w w' := by
  obtain ⟨x, hx⟩ : ∃ x, x = curNext l t := ⟨_, rfl⟩
  obtain ⟨y, hy⟩ : ∃ y, y = curLast l t := ⟨_, rfl⟩
  have HD : Hid (∀ k, NotYet l t k → l.length ≤ k → x = 0 ∧ y = -1) := Lib.hid (fun k h hk => by rw [hx, hy]; exact h.done hk)
  have HH : Hid (∀ k d, NotYet l t k → l[k]? = some d → (d.topic.toList == t.toList) = true → x = d.next ∧ y = d.last) := Lib.hid (fun k d h hd hb => by rw [hx, hy]; exact h.hit hd hb)
  rw [← hx, ← hy]
  clear hx hy
  have K0 := Blk.new w 148 #[.string ⟨#[]⟩, .int .i64 0, .int .i64 0]
  have He := Lib.hid (Ext.new (Below.refl w.heap.size w) (.cells #[.string ⟨#[]⟩, .int .i64 0, .int .i64 0] 148))
  go_enter Try.func86, Try.ntmps86
  go_wp2_with fail
  have Z0 := Lib.hid K0; clear K0
  obtain ⟨g, hg⟩ : ∃ g, g = w.heap.size := ⟨_, rfl⟩
  rw [← hg] at Z0
  rw [← hg]
  have hg0 : w.heap.size ≤ g := by omega
  clear hg
  go_loopw [5] (fun i wr => ∃ (k : Nat), k ≤ l.length ∧ i = .int .i64 k ∧ NotYet l t k ∧ Blk wr g 148 #[.string ⟨#[]⟩, .int .i64 0, .int .i64 0] ∧ Ext w wr) (fun i _ => l.length - (intOf i).toNat)
  case atStart => exact ⟨0, Nat.zero_le _, rfl, NotYet.zero l t, Z0.out, He.out⟩
  case round =>
    clear Z0 He
    obtain ⟨k, hk, rfl, hn, hK, he⟩ := hrel
    have KN := Lib.hid hn; clear hn
    by_cases hlt : k < l.length
    case neg =>
      obtain ⟨rfl, rfl⟩ := HD.out k KN.out (by omega)
      obtain ⟨r0, m0⟩ := hK.rules
      go_wp2_with fail
      have D0 := hK.put 0 [.string t, .int .i64 0, .int .i64 (-1)] #[.string t, .int .i64 0, .int .i64 (-1)] (by simp) rfl
      have he2 := ext_setCells (W := w) hg0 [.string t, .int .i64 0, .int .i64 (-1)] 0 wr he
      change bodyPost _ _ _ _ _ (wr.setCells g 0 [.string t, .int .i64 0, .int .i64 (-1)])
      exact ret_row rfl rfl D0 Try.underlying148 rfl (by kernel_rfl) rfl (by first | exact ⟨t, rfl, he2⟩ | exact ⟨⟨t, rfl⟩, he2⟩)
    obtain ⟨b, off, rfl, hb, hc⟩ := Reads.at_ (hr.ext he) (k := k) hlt
    obtain ⟨d, hd⟩ : ∃ d, d = l[k] := ⟨_, rfl⟩
    have hdl : l[k]? = some d := by rw [hd]; exact List.getElem?_eq_getElem hlt
    obtain ⟨c0, c1, c2⟩ := cur_at hc hdl
    have Hdl := Lib.hid hdl
    clear hc hd hdl
    cases b1 : (d.topic.toList == t.toList)
    · have N := Lib.hid (KN.out.next Hdl.out b1)
      have KK := Lib.hid hK; clear hK
      go_wp2_with fail
      go_roundw
      case rel => exact ⟨k + 1, by omega, by go_num, N.out, KK.out, he⟩
      case measure => simp [intOf]; omega
    · obtain ⟨rfl, rfl⟩ := HH.out k d KN.out Hdl.out b1
      obtain ⟨r0, m0⟩ := hK.rules
      have D0 := Lib.hid (hK.put 0 [.string d.topic, .int .i64 d.next, .int .i64 d.last] #[.string d.topic, .int .i64 d.next, .int .i64 d.last] (by simp) rfl)
      have he2 := Lib.hid (ext_setCells (W := w) hg0 [.string d.topic, .int .i64 d.next, .int .i64 d.last] 0 wr he)
      clear hK
      go_wp2_with fail
      change bodyPost _ _ _ _ _ (wr.setCells g 0 [.string d.topic, .int .i64 d.next, .int .i64 d.last])
      exact ret_row rfl rfl D0.out Try.underlying148 rfl (by kernel_rfl) rfl (by first | exact ⟨d.topic, rfl, he2.out⟩ | exact ⟨⟨d.topic, rfl⟩, he2.out⟩)
set_option maxHeartbeats 1000000 in
theorem specCursorOf_any (d : ClientD) (A0 : Option Addr) (c0 : Nat) (t : ByteArray) (w : World) (s0 : SlF AnyB CursorD.cells 3 w A0 d.cursors c0) (hl : d.cursors.length ≤ 1048576) :
    Calls Try.prog 20 #[.agg #[.int .i64 d.width, .string d.name, .int .i64 d.head.number, .int .i64 d.head.size, .string d.head.root, .int .i64 d.head.taken, .string d.head.takenRoot, .slice A0 d.cursors.length c0], .string t] w fun e w' => e = .returned (.tuple #[.int .i64 (curNext d.cursors t), .int .i64 (curLast d.cursors t)]) ∧ Ext w w' := by
  have S0 := Lib.hid s0; clear s0
  have he := Lib.hid (Ext.new (Below.refl w.heap.size w) (.cells #[.int .i64 d.width, .string d.name, .int .i64 d.head.number, .int .i64 d.head.size, .string d.head.root, .int .i64 d.head.taken, .string d.head.takenRoot, .slice A0 d.cursors.length c0] 49))
  go_enter Try.func20, Try.ntmps20
  go_wp2_with fail
  refine (l16Find_any A0 c0 d.cursors t _ (S0.out.ext he.out).reads hl).mono ?_
  rintro e w1 ⟨s, rfl, h1⟩
  have he2 := he.out.next h1
  go_wp2_with fail
  go_quiet (fail)
  go_wp2_with fail
  go_ret2
  exact ⟨rfl, (Ext.new he2 _).drewN _⟩
end Go.Proofs.Ytcpfgldcijkhlaa
