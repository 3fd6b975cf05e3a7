/-
  CursorsOk: walks. No condition.
-/
import Derived.Test.YtcpfgldcijkhlaaTypes
import Derived.Test.YtcpfgldcijkhlaaName
import Derived.IntWalk
namespace Go.Proofs.Ytcpfgldcijkhlaa
open Go.RowKit
set_option linter.unusedVariables false

theorem quiet_left {P : Program} {f : FuncId} {args : Array Value} {w : World} {n : Nat} {v : Value}
    (h : Calls P f args (w.drewN n) fun e w' => e = .returned v ∧ w.drewN n = w') : Calls P f args (w.drewN n) fun e w'' => e = .returned v ∧ ∃ m, w'' = w.drewN m :=
  h.mono fun _ _ ⟨he, hm⟩ => ⟨he, n, hm.symm⟩

def curOne (p : Option CursorD) (x : CursorD) (size : Int) : Bool :=
  nameOk x.topic && (match p with | none => true | some y => Op.bytesLess y.topic.toList x.topic.toList) && inR x.next 1 512 && decide (x.next - 1 ≤ x.last) && decide (x.last < size)
def cursB : Option CursorD → List CursorD → Int → Bool
  | _, [], _ => true
  | p, x :: xs, size => curOne p x size && cursB (some x) xs size
/-- The one ahead of place k. -/
def before {α : Type} (l : List α) (k : Nat) : Option α := match k with | 0 => none | k + 1 => l[k]?
def CurInv (l : List CursorD) (size : Int) (fin : Bool) (k : Nat) : Prop := cursB (before l k) (l.drop k) size = fin
theorem CurInv.done {l : List CursorD} {size : Int} {fin : Bool} {k : Nat} (h : CurInv l size fin k) (hk : l.length ≤ k) : fin = true := by
  unfold CurInv at h
  rw [List.drop_eq_nil_of_le hk] at h
  simpa [cursB] using h.symm
theorem CurInv.step {l : List CursorD} {size : Int} {fin : Bool} {k : Nat} (h : CurInv l size fin k) (hk : k < l.length) : (curOne (before l k) l[k] size = false → fin = false) ∧ (curOne (before l k) l[k] size = true → CurInv l size fin (k + 1)) := by
  unfold CurInv at h
  rw [List.drop_eq_getElem_cons hk] at h
  simp only [cursB] at h
  refine ⟨fun e => by rw [e] at h; simpa using h.symm, fun e => ?_⟩
  rw [e, Bool.true_and] at h
  show cursB l[k]? (l.drop (k + 1)) size = fin
  rw [List.getElem?_eq_getElem hk]
  exact h

set_option maxHeartbeats 1500000 in
set_option maxRecDepth 100000 in
theorem specCursorsOk_any (A : Option Addr) (c : Nat) (l : List CursorD) (size : Int) (w : World) (hr : ReadsL w w.heap.size CursorD.cells 3 A l) (hok : ∀ d ∈ l, d.Ok) (hl : l.length ≤ 1048576) :
    Calls Try.prog 124 #[.slice A l.length c, .int .i64 size] w fun e w' => e = .returned (.bool (cursB none l size)) ∧ Ext w w' := by
  have Hok := Lib.hid hok; clear hok
  obtain ⟨fin, hfin⟩ : ∃ fin, fin = cursB none l size := ⟨_, rfl⟩
  have Hi : CurInv l size fin 0 := by rw [hfin]; simp [CurInv, before]
  rw [← hfin]; clear hfin
  go_enter Try.func124, Try.ntmps124
  go_wp2
  go_loopw [5] (fun i wr => ∃ (k : Nat), k ≤ l.length ∧ i = .int .i64 k ∧ CurInv l size fin k ∧ Ext w wr) (fun i _ => l.length - (intOf i).toNat)
  case atStart => exact ⟨0, Nat.zero_le _, rfl, Hi, Below.refl _ _⟩
  case round =>
    obtain ⟨k, hk, rfl, hi, he⟩ := hrel
    clear Hi
    by_cases hlt : k < l.length
    · obtain ⟨s1, s2⟩ := hi.step hlt
      clear hi
      obtain ⟨g, off, rfl, hb, hc⟩ := (hr.below he).2 (by omega)
      obtain ⟨d, hd⟩ : ∃ d, d = l[k] := ⟨_, rfl⟩
      have hdl : l[k]? = some d := by rw [hd]; exact List.getElem?_eq_getElem hlt
      rw [← hd] at s1 s2
      have hdo : d.Ok := Hok.out d (List.mem_of_getElem? hdl)
      have hsz : d.topic.size ≤ maxLen := hdo.1
      have hc' : ∀ j u, d.cells[j]? = some u → j < 3 → wr.cell? ⟨g, off + k * 3 + j, none⟩ = some u := fun j u hu hj => by
        rw [Nat.add_assoc]; exact hc _ u (by rw [flat_at _ 3 CursorD.cells_length l k j d hdl hj]; exact hu)
      have c0 := hc' 0 _ rfl (by omega)
      have c1 := hc' 1 _ rfl (by omega)
      have c2 := hc' 2 _ rfl (by omega)
      rw [Nat.add_zero] at c0
      clear hc' hdo
      have S1 := Lib.hid s1; have S2 := Lib.hid s2; clear s1 s2
      have hbg : ¬ g = wr.heap.size := by have := he.size; omega
      rcases k with _ | j
      · simp only [Nat.zero_mul, Nat.add_zero, Nat.zero_add] at c0 c1 c2
        clear hc hd hdl
        cases b1 : nameOk d.topic
        · have E := Lib.hid (S1.out (by simp [curOne, before, b1]))
          clear S1 S2
          go_wp2_with fail
          go_quiet ((first | (go_at_call 173; exact quiet_left (specNameOk_any _ _ hsz)) | (go_at_call 123; exact quiet_left (l01In_any _ _ _ _))))
          go_wp2_with fail
          go_ret
          exact ⟨ret_bool E.out.symm, (he.new _).drewN _⟩
        cases b2 : inR d.next 1 512
        · have E := Lib.hid (S1.out (by simp [curOne, before, b2]))
          clear S1 S2
          go_wp2_with fail
          go_quiet ((first | (go_at_call 173; exact quiet_left (specNameOk_any _ _ hsz)) | (go_at_call 123; exact quiet_left (l01In_any _ _ _ _))))
          go_wp2_with fail
          go_ret
          exact ⟨ret_bool E.out.symm, (he.new _).drewN _⟩
        have hn : 1 ≤ d.next ∧ d.next ≤ 512 := by simpa [inR] using b2
        obtain ⟨hn1, hn2⟩ := hn
        by_cases b3 : d.last < d.next - 1
        · have E := Lib.hid (S1.out (by simp [curOne, before]; omega))
          clear S1 S2
          go_wp2_with fail
          go_quiet ((first | (go_at_call 173; exact quiet_left (specNameOk_any _ _ hsz)) | (go_at_call 123; exact quiet_left (l01In_any _ _ _ _))))
          go_wp2_with fail
          go_ret
          exact ⟨ret_bool E.out.symm, (he.new _).drewN _⟩
        have d3 : decide (d.last < d.next - 1) = false := by rw [decide_eq_false_iff_not]; exact b3
        by_cases b4 : size ≤ d.last
        · have E := Lib.hid (S1.out (by simp [curOne, before]; omega))
          clear S1 S2
          go_wp2_with fail
          go_quiet ((first | (go_at_call 173; exact quiet_left (specNameOk_any _ _ hsz)) | (go_at_call 123; exact quiet_left (l01In_any _ _ _ _))))
          go_wp2_with fail
          go_ret
          exact ⟨ret_bool E.out.symm, (he.new _).drewN _⟩
        have d4 : decide (size ≤ d.last) = false := by rw [decide_eq_false_iff_not]; exact b4
        have E := Lib.hid (S2.out (by simp [curOne, before, b1, b2]; omega))
        clear S1 S2
        go_wp2_with fail
        go_quiet ((first | (go_at_call 173; exact quiet_left (specNameOk_any _ _ hsz)) | (go_at_call 123; exact quiet_left (l01In_any _ _ _ _))))
        go_wp2_with fail
        go_roundw
        case rel => exact ⟨_ + 1, by omega, by go_num, E.out, (he.new _).drewN _⟩
        case measure => simp [intOf]; omega
      · obtain ⟨e, he1⟩ : ∃ e, l[j]? = some e := ⟨_, List.getElem?_eq_getElem (by omega)⟩
        have e0 : wr.cell? ⟨g, off + j * 3, none⟩ = some (.string e.topic) := hc (j * 3) _ (by have := flat_at _ 3 CursorD.cells_length l j 0 e he1 (by omega); rw [Nat.add_zero] at this; rw [this]; rfl)
        have e1 : (wr.alloc (.cells #[.string d.topic, .int .i64 d.next, .int .i64 d.last] 148)).cell? ⟨g, off + j * 3, none⟩ = some (.string e.topic) := by
          rw [World.cell?_alloc_lt _ _ _ (by show g < wr.heap.size; have := he.size; omega)]; exact e0
        have hbe : before l (j + 1) = some e := he1
        rw [hbe] at S1 S2
        have hw : IntKind.i64.wrap (j : Int) = (j : Int) := IntWalk.i64_in _ (by omega)
        have hj1 : j < l.length := by omega
        have hj2 : (j : Int) < (l.length : Int) := by omega
        clear hc hd hdl hbe he1
        cases b1 : nameOk d.topic
        · have E := Lib.hid (S1.out (by simp [curOne, before, b1]))
          clear S1 S2
          go_wp2_with fail
          go_quiet ((first | (go_at_call 173; exact quiet_left (specNameOk_any _ _ hsz)) | (go_at_call 123; exact quiet_left (l01In_any _ _ _ _))))
          go_wp2_with fail
          go_ret
          exact ⟨ret_bool E.out.symm, (he.new _).drewN _⟩
        cases b0 : Op.bytesLess e.topic.toList d.topic.toList
        · have E := Lib.hid (S1.out (by simp [curOne, before, b0]))
          clear S1 S2
          go_wp2_with fail
          go_quiet ((first | (go_at_call 173; exact quiet_left (specNameOk_any _ _ hsz)) | (go_at_call 123; exact quiet_left (l01In_any _ _ _ _))))
          go_wp2_with fail
          go_ret
          exact ⟨ret_bool E.out.symm, (he.new _).drewN _⟩
        cases b2 : inR d.next 1 512
        · have E := Lib.hid (S1.out (by simp [curOne, before, b2]))
          clear S1 S2
          go_wp2_with fail
          go_quiet ((first | (go_at_call 173; exact quiet_left (specNameOk_any _ _ hsz)) | (go_at_call 123; exact quiet_left (l01In_any _ _ _ _))))
          go_wp2_with fail
          go_ret
          exact ⟨ret_bool E.out.symm, (he.new _).drewN _⟩
        have hn : 1 ≤ d.next ∧ d.next ≤ 512 := by simpa [inR] using b2
        obtain ⟨hn1, hn2⟩ := hn
        by_cases b3 : d.last < d.next - 1
        · have E := Lib.hid (S1.out (by simp [curOne, before]; omega))
          clear S1 S2
          go_wp2_with fail
          go_quiet ((first | (go_at_call 173; exact quiet_left (specNameOk_any _ _ hsz)) | (go_at_call 123; exact quiet_left (l01In_any _ _ _ _))))
          go_wp2_with fail
          go_ret
          exact ⟨ret_bool E.out.symm, (he.new _).drewN _⟩
        have d3 : decide (d.last < d.next - 1) = false := by rw [decide_eq_false_iff_not]; exact b3
        by_cases b4 : size ≤ d.last
        · have E := Lib.hid (S1.out (by simp [curOne, before]; omega))
          clear S1 S2
          go_wp2_with fail
          go_quiet ((first | (go_at_call 173; exact quiet_left (specNameOk_any _ _ hsz)) | (go_at_call 123; exact quiet_left (l01In_any _ _ _ _))))
          go_wp2_with fail
          go_ret
          exact ⟨ret_bool E.out.symm, (he.new _).drewN _⟩
        have d4 : decide (size ≤ d.last) = false := by rw [decide_eq_false_iff_not]; exact b4
        have E := Lib.hid (S2.out (by simp [curOne, before, b1, b2, b0]; omega))
        clear S1 S2
        go_wp2_with fail
        go_quiet ((first | (go_at_call 173; exact quiet_left (specNameOk_any _ _ hsz)) | (go_at_call 123; exact quiet_left (l01In_any _ _ _ _))))
        go_wp2_with fail
        go_roundw
        case rel => exact ⟨_ + 1, by omega, by go_num, E.out, (he.new _).drewN _⟩
        case measure => simp [intOf]; omega
    · have E := Lib.hid (hi.done (by omega))
      clear hi
      go_wp2_with fail
      go_ret
      exact ⟨ret_bool E.out.symm, he⟩

set_option maxHeartbeats 2000000 in
set_option maxRecDepth 100000 in
theorem CursorsOk_any (A : Option Addr) (c : Nat) (l : List CursorD) (size : Int) (w : World) (hr : ReadsL w w.heap.size CursorD.cells 3 A l) (hok : ∀ d ∈ l, d.Ok) (hl : l.length ≤ 1048576) :
    Calls Try.prog 126 #[.slice A l.length c, .int .i64 size] w fun e w' => e = .returned (.bool (cursB none l size)) ∧ Ext w w' := by
  have Hok := Lib.hid hok; clear hok
  obtain ⟨fin, hfin⟩ : ∃ fin, fin = cursB none l size := ⟨_, rfl⟩
  have Hi : CurInv l size fin 0 := by rw [hfin]; simp [CurInv, before]
  rw [← hfin]; clear hfin
  go_enter Try.func126, Try.ntmps126
  go_wp2
  go_loopw [9] (fun i wr => ∃ (k : Nat), k ≤ l.length ∧ i = .int .i64 k ∧ CurInv l size fin k ∧ Ext w wr) (fun i _ => l.length - (intOf i).toNat)
  case atStart => exact ⟨0, Nat.zero_le _, rfl, Hi, Below.refl _ _⟩
  case round =>
    obtain ⟨k, hk, rfl, hi, he⟩ := hrel
    clear Hi
    by_cases hlt : k < l.length
    · obtain ⟨s1, s2⟩ := hi.step hlt
      clear hi
      obtain ⟨g, off, rfl, hb, hc⟩ := (hr.below he).2 (by omega)
      obtain ⟨d, hd⟩ : ∃ d, d = l[k] := ⟨_, rfl⟩
      have hdl : l[k]? = some d := by rw [hd]; exact List.getElem?_eq_getElem hlt
      rw [← hd] at s1 s2
      have hdo : d.Ok := Hok.out d (List.mem_of_getElem? hdl)
      have hsz : d.topic.size ≤ maxLen := hdo.1
      have hc' : ∀ j u, d.cells[j]? = some u → j < 3 → wr.cell? ⟨g, off + k * 3 + j, none⟩ = some u := fun j u hu hj => by
        rw [Nat.add_assoc]; exact hc _ u (by rw [flat_at _ 3 CursorD.cells_length l k j d hdl hj]; exact hu)
      have c0 := hc' 0 _ rfl (by omega)
      have c1 := hc' 1 _ rfl (by omega)
      have c2 := hc' 2 _ rfl (by omega)
      rw [Nat.add_zero] at c0
      clear hc' hdo
      have S1 := Lib.hid s1; have S2 := Lib.hid s2; clear s1 s2
      have hbg : ¬ g = wr.heap.size := by have := he.size; omega
      rcases k with _ | j
      · simp only [Nat.zero_mul, Nat.add_zero, Nat.zero_add] at c0 c1 c2
        clear hc hd hdl
        cases b1 : nameOk d.topic
        · have E := Lib.hid (S1.out (by simp [curOne, before, b1]))
          clear S1 S2
          go_wp2_with (first | (go_at_call 149; refine (NameOk_any _ _ hsz).mono ?_; rintro e w' ⟨rfl, rfl⟩) | (go_at_call 120; refine (inRange_any _ _ _ _).mono ?_; rintro e w' ⟨rfl, rfl⟩))
          go_ret
          exact ⟨ret_bool E.out.symm, he.new _⟩
        cases b2 : inR d.next 1 512
        · have E := Lib.hid (S1.out (by simp [curOne, before, b2]))
          clear S1 S2
          go_wp2_with (first | (go_at_call 149; refine (NameOk_any _ _ hsz).mono ?_; rintro e w' ⟨rfl, rfl⟩) | (go_at_call 120; refine (inRange_any _ _ _ _).mono ?_; rintro e w' ⟨rfl, rfl⟩))
          go_ret
          exact ⟨ret_bool E.out.symm, he.new _⟩
        have hn : 1 ≤ d.next ∧ d.next ≤ 512 := by simpa [inR] using b2
        obtain ⟨hn1, hn2⟩ := hn
        by_cases b3 : d.last < d.next - 1
        · have E := Lib.hid (S1.out (by simp [curOne, before]; omega))
          clear S1 S2
          go_wp2_with (first | (go_at_call 149; refine (NameOk_any _ _ hsz).mono ?_; rintro e w' ⟨rfl, rfl⟩) | (go_at_call 120; refine (inRange_any _ _ _ _).mono ?_; rintro e w' ⟨rfl, rfl⟩))
          go_ret
          exact ⟨ret_bool E.out.symm, he.new _⟩
        by_cases b4 : size ≤ d.last
        · have E := Lib.hid (S1.out (by simp [curOne, before]; omega))
          clear S1 S2
          go_wp2_with (first | (go_at_call 149; refine (NameOk_any _ _ hsz).mono ?_; rintro e w' ⟨rfl, rfl⟩) | (go_at_call 120; refine (inRange_any _ _ _ _).mono ?_; rintro e w' ⟨rfl, rfl⟩))
          go_ret
          exact ⟨ret_bool E.out.symm, he.new _⟩
        have E := Lib.hid (S2.out (by simp [curOne, before, b1, b2]; omega))
        clear S1 S2
        go_wp2_with (first | (go_at_call 149; refine (NameOk_any _ _ hsz).mono ?_; rintro e w' ⟨rfl, rfl⟩) | (go_at_call 120; refine (inRange_any _ _ _ _).mono ?_; rintro e w' ⟨rfl, rfl⟩))
        go_quiet (fail)
        go_wp2_with fail
        go_roundw
        case rel => exact ⟨_ + 1, by omega, by go_num, E.out, (he.new _).drewN _⟩
        case measure => simp [intOf]; omega
      · obtain ⟨e, he1⟩ : ∃ e, l[j]? = some e := ⟨_, List.getElem?_eq_getElem (by omega)⟩
        have e0 : wr.cell? ⟨g, off + j * 3, none⟩ = some (.string e.topic) := hc (j * 3) _ (by have := flat_at _ 3 CursorD.cells_length l j 0 e he1 (by omega); rw [Nat.add_zero] at this; rw [this]; rfl)
        have e1 : (wr.alloc (.cells #[.string d.topic, .int .i64 d.next, .int .i64 d.last] 148)).cell? ⟨g, off + j * 3, none⟩ = some (.string e.topic) := by
          rw [World.cell?_alloc_lt _ _ _ (by show g < wr.heap.size; have := he.size; omega)]; exact e0
        have hbe : before l (j + 1) = some e := he1
        rw [hbe] at S1 S2
        have hw : IntKind.i64.wrap (j : Int) = (j : Int) := IntWalk.i64_in _ (by omega)
        have hj1 : j < l.length := by omega
        have hj2 : (j : Int) < (l.length : Int) := by omega
        clear hc hd hdl hbe he1
        cases b1 : nameOk d.topic
        · have E := Lib.hid (S1.out (by simp [curOne, before, b1]))
          clear S1 S2
          go_wp2_with (first | (go_at_call 149; refine (NameOk_any _ _ hsz).mono ?_; rintro e w' ⟨rfl, rfl⟩) | (go_at_call 120; refine (inRange_any _ _ _ _).mono ?_; rintro e w' ⟨rfl, rfl⟩))
          go_ret
          exact ⟨ret_bool E.out.symm, he.new _⟩
        cases b2 : inR d.next 1 512
        · have E := Lib.hid (S1.out (by simp [curOne, before, b2]))
          clear S1 S2
          go_wp2_with (first | (go_at_call 149; refine (NameOk_any _ _ hsz).mono ?_; rintro e w' ⟨rfl, rfl⟩) | (go_at_call 120; refine (inRange_any _ _ _ _).mono ?_; rintro e w' ⟨rfl, rfl⟩))
          go_ret
          exact ⟨ret_bool E.out.symm, he.new _⟩
        have hn : 1 ≤ d.next ∧ d.next ≤ 512 := by simpa [inR] using b2
        obtain ⟨hn1, hn2⟩ := hn
        by_cases b3 : d.last < d.next - 1
        · have E := Lib.hid (S1.out (by simp [curOne, before]; omega))
          clear S1 S2
          go_wp2_with (first | (go_at_call 149; refine (NameOk_any _ _ hsz).mono ?_; rintro e w' ⟨rfl, rfl⟩) | (go_at_call 120; refine (inRange_any _ _ _ _).mono ?_; rintro e w' ⟨rfl, rfl⟩))
          go_ret
          exact ⟨ret_bool E.out.symm, he.new _⟩
        by_cases b4 : size ≤ d.last
        · have E := Lib.hid (S1.out (by simp [curOne, before]; omega))
          clear S1 S2
          go_wp2_with (first | (go_at_call 149; refine (NameOk_any _ _ hsz).mono ?_; rintro e w' ⟨rfl, rfl⟩) | (go_at_call 120; refine (inRange_any _ _ _ _).mono ?_; rintro e w' ⟨rfl, rfl⟩))
          go_ret
          exact ⟨ret_bool E.out.symm, he.new _⟩
        cases b0 : Op.bytesLess e.topic.toList d.topic.toList
        · have E := Lib.hid (S1.out (by simp [curOne, before, b0]))
          clear S1 S2
          go_wp2_with (first | (go_at_call 149; refine (NameOk_any _ _ hsz).mono ?_; rintro e w' ⟨rfl, rfl⟩) | (go_at_call 120; refine (inRange_any _ _ _ _).mono ?_; rintro e w' ⟨rfl, rfl⟩))
          go_quiet (fail)
          go_wp2_with fail
          go_ret
          exact ⟨ret_bool E.out.symm, (he.new _).drewN _⟩
        have E := Lib.hid (S2.out (by simp [curOne, before, b1, b2, b0]; omega))
        clear S1 S2
        go_wp2_with (first | (go_at_call 149; refine (NameOk_any _ _ hsz).mono ?_; rintro e w' ⟨rfl, rfl⟩) | (go_at_call 120; refine (inRange_any _ _ _ _).mono ?_; rintro e w' ⟨rfl, rfl⟩))
        go_quiet (fail)
        go_wp2_with fail
        go_roundw
        case rel => exact ⟨_ + 1, by omega, by go_num, E.out, (he.new _).drewN _⟩
        case measure => simp [intOf]; omega
    · have E := Lib.hid (hi.done (by omega))
      clear hi
      go_wp2_with fail
      go_ret
      exact ⟨ret_bool E.out.symm, he⟩
end Go.Proofs.Ytcpfgldcijkhlaa
