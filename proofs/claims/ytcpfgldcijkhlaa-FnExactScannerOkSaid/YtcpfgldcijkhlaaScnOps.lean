/-
  ScannerOk: plain, and walks. No condition.
-/
import Derived.Test.YtcpfgldcijkhlaaCliOps
import Derived.Test.YtcpfgldcijkhlaaNScanner
import Derived.Test.YtcpfgldcijkhlaaCurOf
namespace Go.Proofs.Ytcpfgldcijkhlaa
open Go.RowKit
set_option linter.unusedVariables false

def sumNext (l : List CursorD) : Int := (l.map CursorD.next).sum
def scannerOk (d : ScannerD) : Bool := clientOk d.client.width d.client.name d.client.head d.client.cursors && decide (d.client.cursors.length = 0) && inR d.leaf 0 d.client.head.size && cursB none d.topics d.leaf && decide (sumNext d.topics = d.leaf)
theorem sumNext_snoc (l : List CursorD) (k : Nat) (d : CursorD) (h : l[k]? = some d) : sumNext (l.take (k + 1)) = sumNext (l.take k) + d.next := by
  obtain ⟨hk, rfl⟩ := List.getElem?_eq_some_iff.1 h
  rw [List.take_succ_eq_append_getElem hk, sumNext, sumNext, List.map_append, List.sum_append]
  simp
theorem cursB_next : ∀ (l : List CursorD) (p : Option CursorD) (size : Int), cursB p l size = true → ∀ x ∈ l, 1 ≤ x.next ∧ x.next ≤ 512
  | [], _, _, _, x, hx => by simp at hx
  | y :: l, p, size, h, x, hx => by
    simp only [cursB, Bool.and_eq_true] at h
    rcases List.mem_cons.1 hx with rfl | hx
    · have := h.1
      simp only [curOne, Bool.and_eq_true] at this
      exact inR_true this.1.1.2
    · exact cursB_next l _ size h.2 x hx
theorem sumNext_len : ∀ (l : List CursorD), (∀ x ∈ l, 1 ≤ x.next ∧ x.next ≤ 512) → (l.length : Int) ≤ sumNext l ∧ sumNext l ≤ 512 * (l.length : Int)
  | [], _ => by simp [sumNext]
  | y :: l, h => by
    have h1 := sumNext_len l (fun x hx => h x (by simp [hx]))
    have h2 := h y (by simp)
    have e : sumNext (y :: l) = y.next + sumNext l := by simp [sumNext]
    rw [e, List.length_cons]
    omega
theorem sumNext_take (l : List CursorD) (h : ∀ x ∈ l, 1 ≤ x.next ∧ x.next ≤ 512) (k : Nat) (hk : k ≤ l.length) : (k : Int) ≤ sumNext (l.take k) ∧ sumNext (l.take k) ≤ 512 * (k : Int) ∧ sumNext (l.take k) ≤ sumNext l := by
  have h1 := sumNext_len (l.take k) (fun x hx => h x (List.mem_of_mem_take hx))
  have h2 := sumNext_len (l.drop k) (fun x hx => h x (List.mem_of_mem_drop hx))
  have e : sumNext l = sumNext (l.take k) + sumNext (l.drop k) := by
    conv => lhs; rw [← List.take_append_drop k l]
    rw [sumNext, sumNext, sumNext, List.map_append, List.sum_append]
  rw [List.length_take, Nat.min_eq_left hk] at h1
  omega
theorem headOk_size {n : Int} {h : HeadD} (hh : headOk n h = true) : h.size ≤ 512 := by
  simp only [headOk, rootB, Bool.and_eq_true] at hh
  have := inR_true (a := 0) (b := 512) (n := h.size) (by simp_all)
  omega
theorem clientOk_size {n : Int} {s : ByteArray} {h : HeadD} {l : List CursorD} (hc : clientOk n s h l = true) : h.size ≤ 512 := by
  simp only [clientOk, Bool.and_eq_true] at hc
  exact headOk_size hc.1.1.2
theorem scanner_long {d : ScannerD} (b1 : clientOk d.client.width d.client.name d.client.head d.client.cursors = true) (b3 : inR d.leaf 0 d.client.head.size = true) (h : 512 < d.topics.length) : scannerOk d = false := by
  cases b4 : cursB none d.topics d.leaf
  · simp [scannerOk, b4]
  · have h1 := (sumNext_len d.topics (cursB_next _ _ _ b4)).1
    have h2 := inR_true b3
    have h3 := clientOk_size b1
    simp only [scannerOk]
    rw [show decide (sumNext d.topics = d.leaf) = false by rw [decide_eq_false_iff_not]; omega, Bool.and_false]
theorem scanner_end {d : ScannerD} (b1 : clientOk d.client.width d.client.name d.client.head d.client.cursors = true) (b2 : d.client.cursors.length = 0) (b3 : inR d.leaf 0 d.client.head.size = true) (b4 : cursB none d.topics d.leaf = true) : scannerOk d = decide (sumNext d.topics = d.leaf) := by
  simp only [scannerOk, b1, b3, b4, decide_eq_true b2, Bool.true_and]
set_option maxHeartbeats 4000000 in
set_option maxRecDepth 100000 in
theorem specScannerOk_any (d : ScannerD) (A0 : Option Addr) (c0 : Nat) (A1 : Option Addr) (c1 : Nat) (w : World) (hok : d.Ok) (s0 : SlF AnyB CursorD.cells 3 w A0 d.client.cursors c0) (s1 : SlF AnyB CursorD.cells 3 w A1 d.topics c1) (hf : ∀ n ∈ d.lens, n ≤ 1048576) :
    Calls Try.prog 54 #[.agg #[.int .i64 d.client.width, .string d.client.name, .int .i64 d.client.head.number, .int .i64 d.client.head.size, .string d.client.head.root, .int .i64 d.client.head.taken, .string d.client.head.takenRoot, .slice A0 d.client.cursors.length c0, .int .i64 d.leaf, .slice A1 d.topics.length c1]] w fun e w' => e = .returned (.bool (scannerOk d)) ∧ Ext w w' := by
  have hl0 : d.client.cursors.length ≤ 1048576 := hf _ (by simp [ScannerD.lens, ClientD.lens])
  have hl1 : d.topics.length ≤ 1048576 := hf _ (by simp [ScannerD.lens])
  obtain ⟨⟨-, kn, -, kc⟩, -, kt⟩ := hok
  have S0 := Lib.hid s0; have S1 := Lib.hid s1; have Kc := Lib.hid kc; have Kt := Lib.hid kt
  clear s0 s1 kc kt hf
  obtain ⟨fin, hfin⟩ : ∃ fin, fin = scannerOk d := ⟨_, rfl⟩
  have Hf := Lib.hid hfin
  rw [← hfin]
  clear hfin
  have K0 := Blk.new w 99 #[.int .i64 d.client.width, .string d.client.name, .int .i64 d.client.head.number, .int .i64 d.client.head.size, .string d.client.head.root, .int .i64 d.client.head.taken, .string d.client.head.takenRoot, .slice A0 d.client.cursors.length c0, .int .i64 d.leaf, .slice A1 d.topics.length c1]
  have he := Ext.new (Below.refl w.heap.size w) (.cells #[.int .i64 d.client.width, .string d.client.name, .int .i64 d.client.head.number, .int .i64 d.client.head.size, .string d.client.head.root, .int .i64 d.client.head.taken, .string d.client.head.takenRoot, .slice A0 d.client.cursors.length c0, .int .i64 d.leaf, .slice A1 d.topics.length c1] 99)
  obtain ⟨r0, m0⟩ := K0.rules
  go_enter Try.func54, Try.ntmps54
  go_wp2_with fail
  obtain ⟨g, hg⟩ : ∃ g, g = w.heap.size := ⟨_, rfl⟩
  rw [← hg] at K0
  rw [← hg]
  clear hg r0 m0
  refine (specClientOk_any d.client.width d.client.name d.client.head A0 c0 d.client.cursors _ kn (S0.out.ext he).reads Kc.out hl0).mono ?_
  rintro e w1 ⟨rfl, h1⟩
  replace K0 := K0.ext h1; replace he := he.next h1; clear h1
  obtain ⟨r0, m0⟩ := K0.rules
  cases b1 : clientOk d.client.width d.client.name d.client.head d.client.cursors
  case false =>
    have E := Lib.hid (show fin = false by rw [Hf.out]; simp [scannerOk, b1])
    go_wp2_with fail
    go_ret
    exact ⟨ret_bool E.out.symm, he⟩
  by_cases b2 : 0 < d.client.cursors.length
  case pos =>
    have E := Lib.hid (show fin = false by rw [Hf.out]; simp only [scannerOk]; rw [decide_eq_false (by omega : ¬ d.client.cursors.length = 0)]; simp)
    go_wp2_with fail
    go_ret
    exact ⟨ret_bool E.out.symm, he⟩
  have b2' : d.client.cursors.length = 0 := by omega
  have B2 := Lib.hid b2'
  have e2 : decide (0 < d.client.cursors.length) = false := by rw [decide_eq_false_iff_not]; omega
  clear b2 b2'
  cases b3 : inR d.leaf 0 d.client.head.size
  case false =>
    have E := Lib.hid (show fin = false by rw [Hf.out]; simp [scannerOk, b3])
    go_wp2_with (go_at_call 123; refine (l01In_any _ _ _ _).mono ?_; rintro e w' ⟨rfl, rfl⟩)
    go_ret
    exact ⟨ret_bool E.out.symm, he⟩
  go_wp2_with (go_at_call 123; refine (l01In_any _ _ _ _).mono ?_; rintro e w' ⟨rfl, rfl⟩)
  refine (specCursorsOk_any A1 c1 d.topics d.leaf _ (S1.out.ext he).reads Kt.out hl1).mono ?_
  rintro e w2 ⟨rfl, h1⟩
  replace K0 := K0.ext h1; replace he := he.next h1; clear h1 r0 m0
  obtain ⟨r0, m0⟩ := K0.rules
  cases b4 : cursB none d.topics d.leaf
  case false =>
    have E := Lib.hid (show fin = false by rw [Hf.out]; simp [scannerOk, b4])
    go_wp2_with fail
    go_ret
    exact ⟨ret_bool E.out.symm, he⟩
  have HT := Lib.hid (sumNext_take d.topics (cursB_next _ _ _ b4))
  have HE : Hid (fin = decide (sumNext d.topics = d.leaf)) := Lib.hid (by rw [Hf.out]; exact scanner_end b1 B2.out b3 b4)
  clear b1 b3 b4 Hf
  go_wp2_with fail
  have Z0 := Lib.hid K0; have Z1 := Lib.hid he
  clear r0 m0 K0 he
  go_loopw [3, 4] (fun s i wr => ∃ (k : Nat), k ≤ d.topics.length ∧ i = .int .i64 k ∧ s = .int .i64 (sumNext (d.topics.take k)) ∧ Blk wr g 99 #[.int .i64 d.client.width, .string d.client.name, .int .i64 d.client.head.number, .int .i64 d.client.head.size, .string d.client.head.root, .int .i64 d.client.head.taken, .string d.client.head.takenRoot, .slice A0 d.client.cursors.length c0, .int .i64 d.leaf, .slice A1 d.topics.length c1] ∧ Ext w wr) (fun _ i _ => d.topics.length - (intOf i).toNat)
  case atStart => exact ⟨0, Nat.zero_le _, rfl, rfl, Z0.out, Z1.out⟩
  case round =>
    clear Z0 Z1
    obtain ⟨k, hk, rfl, rfl, K0, he⟩ := hrel
    obtain ⟨t0, t1, t2⟩ := HT.out k hk
    obtain ⟨r0, m0⟩ := K0.rules
    by_cases hlt : k < d.topics.length
    case neg =>
      obtain rfl : k = d.topics.length := by omega
      have e1 : d.topics.take d.topics.length = d.topics := List.take_length
      rw [e1] at t0 t1 t2
      rw [e1]
      clear e1
      have E := HE
      generalize sumNext d.topics = q at *
      have d1 : decide ((d.topics.length : Int) < (d.topics.length : Int)) = false := by simp
      go_wp2_with fail
      go_ret
      exact ⟨ret_bool (by rw [E.out]; exact Bool.eq_iff_iff.2 (by simp)), he⟩
    obtain ⟨b, off, rfl, hb, hc⟩ := Reads.at_ (S1.out.ext he).reads (k := k) hlt
    obtain ⟨x, hx⟩ : ∃ x, x = d.topics[k] := ⟨_, rfl⟩
    have hxl : d.topics[k]? = some x := by rw [hx]; exact List.getElem?_eq_getElem hlt
    obtain ⟨x0, x1, x2⟩ := cur_at hc hxl
    obtain ⟨u0, u1, u2⟩ := HT.out (k + 1) (by omega)
    have Hs := Lib.hid (sumNext_snoc d.topics k x hxl)
    rw [Hs.out] at u0 u1 u2
    clear hc hx hxl
    have d1 : decide ((k : Int) < (d.topics.length : Int)) = true := by rw [decide_eq_true_eq]; omega
    by_cases hle : sumNext (d.topics.take k) ≤ d.leaf
    case neg =>
      have E : Hid (fin = false) := Lib.hid (by rw [HE.out, decide_eq_false_iff_not]; omega)
      have hne : (sumNext (d.topics.take k) == d.leaf) = false := by rw [beq_eq_false_iff_ne]; omega
      clear HE HT Hs t2 u0 u1 u2
      generalize sumNext (d.topics.take k) = q at *
      go_wp2_with fail
      go_ret
      exact ⟨ret_bool E.out.symm, he⟩
    have KK := Lib.hid K0; clear K0
    clear t2 u2 HE HT
    generalize sumNext (d.topics.take k) = q at *
    go_wp2_with fail
    go_roundw
    case rel => exact ⟨k + 1, by omega, by go_num, by rw [Hs.out], KK.out, he⟩
    case measure => simp [intOf]; omega
set_option maxHeartbeats 4000000 in
set_option maxRecDepth 100000 in
theorem implScannerOk_any (d : ScannerD) (A0 : Option Addr) (c0 : Nat) (A1 : Option Addr) (c1 : Nat) (w : World) (hok : d.Ok) (s0 : SlF AnyB CursorD.cells 3 w A0 d.client.cursors c0) (s1 : SlF AnyB CursorD.cells 3 w A1 d.topics c1) (hf : ∀ n ∈ d.lens, n ≤ 1048576) :
    Calls Try.prog 56 #[.agg #[.int .i64 d.client.width, .string d.client.name, .int .i64 d.client.head.number, .int .i64 d.client.head.size, .string d.client.head.root, .int .i64 d.client.head.taken, .string d.client.head.takenRoot, .slice A0 d.client.cursors.length c0, .int .i64 d.leaf, .slice A1 d.topics.length c1]] w fun e w' => e = .returned (.bool (scannerOk d)) ∧ Ext w w' := by
  have hl0 : d.client.cursors.length ≤ 1048576 := hf _ (by simp [ScannerD.lens, ClientD.lens])
  have hl1 : d.topics.length ≤ 1048576 := hf _ (by simp [ScannerD.lens])
  obtain ⟨⟨-, kn, -, kc⟩, -, kt⟩ := hok
  have S0 := Lib.hid s0; have S1 := Lib.hid s1; have Kc := Lib.hid kc; have Kt := Lib.hid kt
  clear s0 s1 kc kt hf
  obtain ⟨fin, hfin⟩ : ∃ fin, fin = scannerOk d := ⟨_, rfl⟩
  have Hf := Lib.hid hfin
  rw [← hfin]
  clear hfin
  have K0 := Blk.new w 99 #[.int .i64 d.client.width, .string d.client.name, .int .i64 d.client.head.number, .int .i64 d.client.head.size, .string d.client.head.root, .int .i64 d.client.head.taken, .string d.client.head.takenRoot, .slice A0 d.client.cursors.length c0, .int .i64 d.leaf, .slice A1 d.topics.length c1]
  have he := Ext.new (Below.refl w.heap.size w) (.cells #[.int .i64 d.client.width, .string d.client.name, .int .i64 d.client.head.number, .int .i64 d.client.head.size, .string d.client.head.root, .int .i64 d.client.head.taken, .string d.client.head.takenRoot, .slice A0 d.client.cursors.length c0, .int .i64 d.leaf, .slice A1 d.topics.length c1] 99)
  obtain ⟨r0, m0⟩ := K0.rules
  go_enter Try.func56, Try.ntmps56
  go_wp2_with fail
  obtain ⟨g, hg⟩ : ∃ g, g = w.heap.size := ⟨_, rfl⟩
  rw [← hg] at K0
  rw [← hg]
  clear hg r0 m0
  refine (implClientOk_any d.client.width d.client.name d.client.head A0 c0 d.client.cursors _ kn (S0.out.ext he).reads Kc.out hl0).mono ?_
  rintro e w1 ⟨rfl, h1⟩
  replace K0 := K0.ext h1; replace he := he.next h1; clear h1
  obtain ⟨r0, m0⟩ := K0.rules
  cases b1 : clientOk d.client.width d.client.name d.client.head d.client.cursors
  case false =>
    have E := Lib.hid (show fin = false by rw [Hf.out]; simp [scannerOk, b1])
    go_wp2_with fail
    go_ret
    exact ⟨ret_bool E.out.symm, he⟩
  by_cases b2 : 0 < d.client.cursors.length
  case pos =>
    have E := Lib.hid (show fin = false by rw [Hf.out]; simp only [scannerOk]; rw [decide_eq_false (by omega : ¬ d.client.cursors.length = 0)]; simp)
    go_wp2_with fail
    go_ret
    exact ⟨ret_bool E.out.symm, he⟩
  have b2' : d.client.cursors.length = 0 := by omega
  have B2 := Lib.hid b2'
  have e2 : decide (0 < d.client.cursors.length) = false := by rw [decide_eq_false_iff_not]; omega
  clear b2 b2'
  cases b3 : inR d.leaf 0 d.client.head.size
  case false =>
    have E := Lib.hid (show fin = false by rw [Hf.out]; simp [scannerOk, b3])
    go_wp2_with (go_at_call 120; refine (inRange_any _ _ _ _).mono ?_; rintro e w' ⟨rfl, rfl⟩)
    go_ret
    exact ⟨ret_bool E.out.symm, he⟩
  by_cases b5 : 512 < d.topics.length
  case pos =>
    have E := Lib.hid (show fin = false by rw [Hf.out]; exact scanner_long b1 b3 b5)
    go_wp2_with (go_at_call 120; refine (inRange_any _ _ _ _).mono ?_; rintro e w' ⟨rfl, rfl⟩)
    go_ret
    exact ⟨ret_bool E.out.symm, he⟩
  have e5 : decide (512 < d.topics.length) = false := by rw [decide_eq_false_iff_not]; omega
  go_wp2_with (go_at_call 120; refine (inRange_any _ _ _ _).mono ?_; rintro e w' ⟨rfl, rfl⟩)
  refine (CursorsOk_any A1 c1 d.topics d.leaf _ (S1.out.ext he).reads Kt.out hl1).mono ?_
  rintro e w2 ⟨rfl, h1⟩
  replace K0 := K0.ext h1; replace he := he.next h1; clear h1 r0 m0
  obtain ⟨r0, m0⟩ := K0.rules
  cases b4 : cursB none d.topics d.leaf
  case false =>
    have E := Lib.hid (show fin = false by rw [Hf.out]; simp [scannerOk, b4])
    go_wp2_with fail
    go_ret
    exact ⟨ret_bool E.out.symm, he⟩
  have HT := Lib.hid (sumNext_take d.topics (cursB_next _ _ _ b4))
  have HE : Hid (fin = decide (sumNext d.topics = d.leaf)) := Lib.hid (by rw [Hf.out]; exact scanner_end b1 B2.out b3 b4)
  clear b1 b3 b4 Hf
  go_wp2_with fail
  have Z0 := Lib.hid K0; have Z1 := Lib.hid he
  clear r0 m0 K0 he
  go_loopw [3, 42] (fun s i wr => ∃ (k : Nat), k ≤ d.topics.length ∧ i = .int .i64 k ∧ s = .int .i64 (sumNext (d.topics.take k)) ∧ Blk wr g 99 #[.int .i64 d.client.width, .string d.client.name, .int .i64 d.client.head.number, .int .i64 d.client.head.size, .string d.client.head.root, .int .i64 d.client.head.taken, .string d.client.head.takenRoot, .slice A0 d.client.cursors.length c0, .int .i64 d.leaf, .slice A1 d.topics.length c1] ∧ Ext w wr) (fun _ i _ => d.topics.length - (intOf i).toNat)
  case atStart => exact ⟨0, Nat.zero_le _, rfl, rfl, Z0.out, Z1.out⟩
  case round =>
    clear Z0 Z1
    obtain ⟨k, hk, rfl, rfl, K0, he⟩ := hrel
    obtain ⟨t0, t1, t2⟩ := HT.out k hk
    obtain ⟨r0, m0⟩ := K0.rules
    by_cases hlt : k < d.topics.length
    case neg =>
      obtain rfl : k = d.topics.length := by omega
      have e1 : d.topics.take d.topics.length = d.topics := List.take_length
      rw [e1] at t0 t1 t2
      rw [e1]
      clear e1
      have E := HE
      generalize sumNext d.topics = q at *
      go_wp2_with fail
      go_ret
      exact ⟨ret_bool (by rw [E.out]; exact Bool.eq_iff_iff.2 (by simp)), he⟩
    obtain ⟨b, off, rfl, hb, hc⟩ := Reads.at_ (S1.out.ext he).reads (k := k) hlt
    obtain ⟨x, hx⟩ : ∃ x, x = d.topics[k] := ⟨_, rfl⟩
    have hxl : d.topics[k]? = some x := by rw [hx]; exact List.getElem?_eq_getElem hlt
    obtain ⟨x0, x1, x2⟩ := cur_at hc hxl
    obtain ⟨u0, u1, u2⟩ := HT.out (k + 1) (by omega)
    have Hs := Lib.hid (sumNext_snoc d.topics k x hxl)
    rw [Hs.out] at u0 u1 u2
    clear hc hx hxl
    have KK := Lib.hid K0; clear K0
    clear t2 u2 HE HT
    generalize sumNext (d.topics.take k) = q at *
    go_wp2_with fail
    go_roundw
    case rel => exact ⟨k + 1, by omega, by go_num, by rw [Hs.out], KK.out.alloc _, he.new _⟩
    case measure => simp [intOf]; omega
end Go.Proofs.Ytcpfgldcijkhlaa
