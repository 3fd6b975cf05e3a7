/-
  RightC: No condition.
-/
import Derived.Test.YthnpdoadmglipaaGreatRecs
import Derived.Test.YthnpdoadmglipaaGreatRets
import Derived.Test.YthnpdoadmglipaaGreatSpSeal
import Derived.Test.YthnpdoadmglipaaGreatSpTake
import Derived.Test.YthnpdoadmglipaaGreatSpPub
import Derived.Test.YthnpdoadmglipaaGreatSealT
import Derived.Test.YthnpdoadmglipaaGreatRoot6
import Derived.Test.YthnpdoadmglipaaGreatBrkNew
namespace Go.Proofs.YthnpdoadmglipaaGreat
set_option linter.unusedSimpArgs false
open Go.RowKit
set_option linter.unusedVariables false
theorem right_seal2 {b : BrokerD} (hB : brokerB b = true) (h : snCode b = 0) : brokerB (snB b) = true := by
 rw [(sn_good h).1]
 rw [snCode, hB, if_pos rfl] at h
 exact right_seal hB h
theorem right_take2 {b : BrokerD} {r : ReceiptD} (hB : brokerB b = true) (h : taCode b r = 0) : brokerB (taB b r) = true := by
 rw [(ta_good h).1]
 rw [taCode, hB, if_pos rfl] at h
 exact right_take hB h
def DdAns (N : List Value) (cc : Nat) (K : Nat) (w' : World) : Prop := N.length = 13 ∧ N.all (·.oneCell') = true ∧ (cc = 0 → ∃ b, brokerB b = true ∧ BVal K b N w')
theorem dd_of {K : Nat} {B : BrokerD} {cc : Nat} {ve vr vh v1 v2 : Value} {w : World} (h : BRows K w B ve vr vh v1 v2) (ha : ∀ x, v1.ownBlock = some x → v2.ownBlock ≠ some x) (hr : cc = 0 → brokerB B = true) : DdAns (brkCs B ve vr vh v1 v2) cc K w := by
 have hv := val_of h ha
 exact ⟨hv.len, hv.one, fun h0 => ⟨B, hr h0, hv⟩⟩
theorem seal_step {p : Nat → Prop} {b : BrokerD} {M : List Value} {W : World} (hB : brokerB b = true) (h : BRdL p b M W) :
 Calls Tryz.prog 53 #[.agg M.toArray] W fun e w' => ∃ (N : List Value) (u : Value) (cc : Nat), e = .returned (.tuple #[.agg N.toArray, u, .int .i64 (cc : Int)]) ∧ DdAns N cc W.heap.size w' ∧ Ext W w' := by
 obtain ⟨X0, x0, X1, x1, X2, x2, X3, x3, X4, x4, rfl, h2⟩ := h
 refine (l12Seal_any b X0 x0 X1 x1 X2 x2 X3 x3 X4 x4 W h2.any (tx_right hB) hB).mono ?_
 rintro e w' ⟨ve, vr, vh, v1, v2, vw, he, hr, ha, _, hx⟩
 exact ⟨_, vw, _, he, dd_of hr ha (right_seal2 hB), hx⟩
theorem take_step {p : Nat → Prop} {b : BrokerD} {M : List Value} {W : World} (r : ReceiptD) (hr : r.Ok) (hB : brokerB b = true) (h : BRdL p b M W) :
 Calls Tryz.prog 54 #[.agg M.toArray, .agg #[.string r.reader, .string r.topic, .int .i64 r.index]] W fun e w' => ∃ (N : List Value) (u : Value) (cc : Nat), e = .returned (.tuple #[.agg N.toArray, u, .int .i64 (cc : Int)]) ∧ DdAns N cc W.heap.size w' ∧ Ext W w' := by
 obtain ⟨X0, x0, X1, x1, X2, x2, X3, x3, X4, x4, rfl, h2⟩ := h
 refine (l12Receipt_any b r X0 x0 X1 x1 X2 x2 X3 x3 X4 x4 W h2.any (tx_right hB) hr hB).mono ?_
 rintro e w' ⟨ve, vr, vh, v1, v2, vw, he, hr, ha, _, hx⟩
 exact ⟨_, vw, _, he, dd_of hr ha (right_take2 hB), hx⟩
theorem pub_step {p : Nat → Prop} {b : BrokerD} {M : List Value} {W : World} (d : EntryD) (hd : d.Ok) (hB : brokerB b = true) (h : BRdL p b M W) :
 Calls Tryz.prog 57 #[.agg M.toArray, .string d.topic, .int .i64 d.time, .string d.key, .string d.body] W fun e w' => ∃ (N : List Value) (u : Value) (ll cc : Nat), e = .returned (.tuple #[.agg N.toArray, u, .int .i64 (ll : Int), .int .i64 (cc : Int)]) ∧ DdAns N cc W.heap.size w' ∧ Ext W w' := by
 obtain ⟨X0, x0, X1, x1, X2, x2, X3, x3, X4, x4, rfl, h2⟩ := h
 refine (l12Publish_any b d X0 x0 X1 x1 X2 x2 X3 x3 X4 x4 W h2.any (tx_right hB) hd hB).mono ?_
 rintro e w' ⟨ve, vr, vh, v1, v2, vw, he, hr, ha, _, hx⟩
 exact ⟨_, vw, _, _, he, dd_of hr ha (right_pub2 hB), hx⟩
theorem new_step {n : Int} (hn : inR n 1 32 = true) (W : World) :
 Calls Tryz.prog 52 #[.int .i64 n] W fun e w' => ∃ M : List Value, e = .returned (.tuple #[.agg M.toArray, .bool true]) ∧ BVal W.heap.size (newBr n) M w' ∧ Ext W w' := by
 refine (specBrokerNew_yes n W hn).mono ?_
 rintro e w' ⟨q, he, hq, kq, hx⟩
 exact ⟨_, he, newV hq kq, hx⟩
theorem ent_ok {tp ky bd : ByteArray} {tm : Int} (h1 : tp.size ≤ 20) (h2 : 0 ≤ tm) (h3 : tm < 1000) (h4 : ky.size ≤ 5) (h5 : bd.size ≤ 5) : EntryD.Ok ⟨tp, 0, tm, ky, bd⟩ :=
 ⟨by show tp.size ≤ maxLen; unfold maxLen; omega, lit_ok (k := 0) (by decide) (by decide), lit_ok (k := tm) h2 (by omega), by show ky.size ≤ maxLen; unfold maxLen; omega, by show bd.size ≤ maxLen; unfold maxLen; omega⟩
theorem rec_ok {rd tp : ByteArray} {ix : Int} (h1 : rd.size ≤ 20) (h2 : tp.size ≤ 20) (h3 : 0 ≤ ix) (h4 : ix < 3) : ReceiptD.Ok ⟨rd, tp, ix⟩ :=
 ⟨by show rd.size ≤ maxLen; unfold maxLen; omega, by show tp.size ≤ maxLen; unfold maxLen; omega, lit_ok (k := ix) h3 (by omega)⟩
theorem topics_size : ∀ t ∈ topics, t.size ≤ 20 := by
 intro t h
 simp only [topics, List.mem_cons, List.not_mem_nil, or_false] at h
 rcases h with rfl | rfl | rfl <;> decide
structure RS0 (w : World) (B g : Nat) (A : Option Addr) (c : Nat) (l : List Int) (q0 g7 : Nat) (b : BrokerD) (M : List Value) (w' : World) : Prop where
 q : Blk w' q0 37 #[.int .i64 0, .slice none 0 0, .slice none 0 0, .slice none 0 0, .int .i64 0, .slice none 0 0, .int .i64 0, .slice none 0 0, .int .i64 0, .int .i64 0, .string ⟨#[]⟩, .int .i64 0, .string ⟨#[]⟩]
 k : Blk w' g7 37 M.toArray
 v : BVal w.heap.size b M w'
 c : CurAt w' B g A c l
 x : ExtBut g w w'
def RSt (w : World) (B g : Nat) (A : Option Addr) (c : Nat) (l : List Int) (q0 g7 g10 : Nat) (b : BrokerD) (M : List Value) (w' : World) : Prop := RS0 w B g A c l q0 g7 b M w' ∧ ∃ N : Array Value, N.size = 13 ∧ Blk w' g10 37 N
structure RDs (w : World) (B g q0 g7 : Nat) : Prop where
 g : g < w.heap.size
 q : w.heap.size ≤ q0
 k : q0 < g7
theorem RS0.ext {w w1 w2 : World} {B g q0 g7 c : Nat} {A : Option Addr} {l : List Int} {b : BrokerD} {M : List Value} (h : RS0 w B g A c l q0 g7 b M w1) (he : Ext w1 w2) : RS0 w B g A c l q0 g7 b M w2 :=
 ⟨h.q.ext he, h.k.ext he, h.v.ext he, h.c.ext he, h.x.next (ExtBut.of_ext he)⟩
theorem RS0.but {w w1 w2 : World} {B g q0 g7 c : Nat} {A : Option Addr} {l : List Int} {b : BrokerD} {M : List Value} (h : RS0 w B g A c l q0 g7 b M w1) (d : RDs w B g q0 g7) (hc : CurAt w2 B g A c l) (he : ExtBut g w1 w2) : RS0 w B g A c l q0 g7 b M w2 := by
 have := d.g; have := d.q; have := d.k
 exact ⟨h.q.extBut he (by omega), h.k.extBut he (by omega), h.v.but he (by omega), hc, h.x.next he⟩
theorem RS0.far {w w1 : World} {B g q0 g7 g10 c : Nat} {A : Option Addr} {l : List Int} {b : BrokerD} {M : List Value} (h : RS0 w B g A c l q0 g7 b M w1) (d : RDs w B g q0 g7) (h10 : g7 < g10) {N0 : Array Value} (hb : Blk w1 g10 37 N0) (N : List Value) : RS0 w B g A c l q0 g7 b M (w1.setCells g10 0 N) := by
 have := d.g; have := d.q; have := d.k; have := h.c.1
 exact ⟨h.q.farCells (by omega) N 0, h.k.farCells (by omega) N 0, h.v.putB hb N 0, h.c.far (by omega) (by omega) N 0, ExtBut.setCellsNew (by omega) N 0 _ h.x⟩
theorem RS0.take {w w1 : World} {B g q0 g7 c : Nat} {A : Option Addr} {l : List Int} {b b' : BrokerD} {M N : List Value} (h : RS0 w B g A c l q0 g7 b M w1) (d : RDs w B g q0 g7) (hv : BVal w.heap.size b' N w1) : RS0 w B g A c l q0 g7 b' N (w1.setCells g7 0 N) := by
 have := d.g; have := d.q; have := d.k; have := h.c.1
 exact ⟨h.q.farCells (by omega) N 0, put_whole h.k N (by rw [List.size_toArray, h.v.len, hv.len]), hv.putB h.k N 0, h.c.far (by omega) (by omega) N 0, ExtBut.setCellsNew (by omega) N 0 _ h.x⟩
theorem RSt.ext {w w1 w2 : World} {B g q0 g7 g10 c : Nat} {A : Option Addr} {l : List Int} {b : BrokerD} {M : List Value} (h : RSt w B g A c l q0 g7 g10 b M w1) (he : Ext w1 w2) : RSt w B g A c l q0 g7 g10 b M w2 := by
 obtain ⟨N, h1, h2⟩ := h.2
 exact ⟨h.1.ext he, N, h1, h2.ext he⟩
theorem RSt.but {w w1 w2 : World} {B g q0 g7 g10 c : Nat} {A : Option Addr} {l : List Int} {b : BrokerD} {M : List Value} (h : RSt w B g A c l q0 g7 g10 b M w1) (d : RDs w B g q0 g7) (h10 : g7 < g10) (hc : CurAt w2 B g A c l) (he : ExtBut g w1 w2) : RSt w B g A c l q0 g7 g10 b M w2 := by
 obtain ⟨N, h1, h2⟩ := h.2
 have := d.g; have := d.q; have := d.k
 exact ⟨h.1.but d hc he, N, h1, h2.extBut he (by omega)⟩
theorem RSt.put {w w1 : World} {B g q0 g7 g10 c : Nat} {A : Option Addr} {l : List Int} {b : BrokerD} {M : List Value} (h : RSt w B g A c l q0 g7 g10 b M w1) (d : RDs w B g q0 g7) (h10 : g7 < g10) (N : List Value) (hN : N.length = 13) : RSt w B g A c l q0 g7 g10 b M (w1.setCells g10 0 N) ∧ Blk (w1.setCells g10 0 N) g10 37 N.toArray := by
 obtain ⟨N0, h1, h2⟩ := h.2
 have hb := put_whole h2 N (by rw [h1, hN])
 exact ⟨⟨h.1.far d h10 h2 N, _, by rw [List.size_toArray, hN], hb⟩, hb⟩
theorem RSt.there {w w1 : World} {B g q0 g7 g10 c : Nat} {A : Option Addr} {l : List Int} {b : BrokerD} {M : List Value} (h : RSt w B g A c l q0 g7 g10 b M w1) : w1.there g10 0 13 := by
 obtain ⟨N0, h1, h2⟩ := h.2
 exact h2.there 0 13 (by omega)
end Go.Proofs.YthnpdoadmglipaaGreat
