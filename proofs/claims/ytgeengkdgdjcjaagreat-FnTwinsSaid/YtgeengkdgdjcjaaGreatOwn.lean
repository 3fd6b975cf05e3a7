/-
  Shelf; Own: No condition.
-/
import Derived.Shelf.Strings.Repeat
import Derived.Test.YtgeengkdgdjcjaaGreatProg
import Derived.Test.YtgeengkdgdjcjaaGreatMem
import Derived.Laws.OwnMore
import Derived.OwnWalk
namespace Go.Proofs.YtgeengkdgdjcjaaGreat
open Go.Shelf Go.RowKit
set_option linter.unusedSimpArgs false
set_option linter.unusedVariables false
def lays105_ren : Go.Shelf.Ren := ⟨fun | 105 => 234 | 212 => 269 | 99 => 270 | 165 => 271 | 166 => 189 | 170 => 188 | 169 => 190 | 263 => 286 | 264 => 287 | 206 => 288 | 240 => 246 | 241 => 289 | 276 => 281 | 277 => 290 | n => n, fun | 9 => 9 | 3 => 3 | 4 => 4 | 20 => 20 | 0 => 0 | 46 => 170 | 109 => 318 | 5 => 5 | 72 => 240 | 76 => 244 | 51 => 212 | 146 => 330 | 53 => 311 | 148 => 332 | 70 => 238 | 37 => 22 | 75 => 243 | 127 => 298 | 164 => 325 | 80 => 246 | n => n, fun | n => n⟩
theorem lays105 : Go.Proofs.Lays.n105 Tryz.prog lays105_ren := {
 mixed := by kernel_rfl
 f99 := Tryz.func270.trans (congrArg some (by kernel_rfl))
 f105 := Tryz.func234.trans (congrArg some (by kernel_rfl))
 f165 := Tryz.func271.trans (congrArg some (by kernel_rfl))
 f166 := Tryz.func189.trans (congrArg some (by kernel_rfl))
 f169 := Tryz.func190.trans (congrArg some (by kernel_rfl))
 f170 := Tryz.func188.trans (congrArg some (by kernel_rfl))
 f206 := Tryz.func288.trans (congrArg some (by kernel_rfl))
 f212 := Tryz.func269.trans (congrArg some (by kernel_rfl))
 f240 := Tryz.func246.trans (congrArg some (by kernel_rfl))
 f241 := Tryz.func289.trans (congrArg some (by kernel_rfl))
 f263 := Tryz.func286.trans (congrArg some (by kernel_rfl))
 f264 := Tryz.func287.trans (congrArg some (by kernel_rfl))
 f276 := Tryz.func281.trans (congrArg some (by kernel_rfl))
 f277 := Tryz.func290.trans (congrArg some (by kernel_rfl))
 t0 := Tryz.underlying0
 a0 := Tryz.isAgg0
 z0 := Tryz.sizeOf0
 v0 := Tryz.zeroValue0
 t3 := Tryz.underlying3
 a3 := Tryz.isAgg3
 z3 := Tryz.sizeOf3
 v3 := Tryz.zeroValue3
 t4 := Tryz.underlying4
 a4 := Tryz.isAgg4
 z4 := Tryz.sizeOf4
 v4 := Tryz.zeroValue4
 t5 := Tryz.underlying5
 a5 := Tryz.isAgg5
 z5 := Tryz.sizeOf5
 v5 := Tryz.zeroValue5
 t9 := Tryz.underlying9
 a9 := Tryz.isAgg9
 z9 := Tryz.sizeOf9
 v9 := Tryz.zeroValue9
 t20 := Tryz.underlying20
 a20 := Tryz.isAgg20
 z20 := Tryz.sizeOf20
 v20 := Tryz.zeroValue20
 t37 := Tryz.underlying22
 a37 := Tryz.isAgg22
 z37 := Tryz.sizeOf22
 v37 := Tryz.zeroValue22
 t46 := Tryz.underlying170
 a46 := Tryz.isAgg170
 z46 := Tryz.sizeOf170
 v46 := Tryz.zeroValue170
 t51 := Tryz.underlying212
 a51 := Tryz.isAgg212
 z51 := Tryz.sizeOf212
 v51 := Tryz.zeroValue212
 t53 := Tryz.underlying311
 a53 := Tryz.isAgg311
 z53 := Tryz.sizeOf311
 v53 := Tryz.zeroValue311
 t70 := Tryz.underlying238
 a70 := Tryz.isAgg238
 z70 := Tryz.sizeOf238
 v70 := Tryz.zeroValue238
 t72 := Tryz.underlying240
 a72 := Tryz.isAgg240
 z72 := Tryz.sizeOf240
 v72 := Tryz.zeroValue240
 t75 := Tryz.underlying243
 a75 := Tryz.isAgg243
 z75 := Tryz.sizeOf243
 v75 := Tryz.zeroValue243
 t76 := Tryz.underlying244
 a76 := Tryz.isAgg244
 z76 := Tryz.sizeOf244
 v76 := Tryz.zeroValue244
 t109 := Tryz.underlying318
 a109 := Tryz.isAgg318
 z109 := Tryz.sizeOf318
 v109 := Tryz.zeroValue318
 t127 := Tryz.underlying298
 a127 := Tryz.isAgg298
 z127 := Tryz.sizeOf298
 v127 := Tryz.zeroValue298
 t146 := Tryz.underlying330
 a146 := Tryz.isAgg330
 z146 := Tryz.sizeOf330
 v146 := Tryz.zeroValue330
 t148 := Tryz.underlying332
 a148 := Tryz.isAgg332
 z148 := Tryz.sizeOf332
 v148 := Tryz.zeroValue332
 t164 := Tryz.underlying325
 a164 := Tryz.isAgg325
 z164 := Tryz.sizeOf325
 v164 := Tryz.zeroValue325 }
theorem extra105 : Builder.Extra Tryz.prog lays105_ren := {
 sizeBuilder := by kernel_rfl
 liesBuilder := by kernel_rfl
 t5 := Tryz.underlying5
 a5 := Tryz.isAgg5
 z5 := Tryz.sizeOf5
 v5 := Tryz.zeroValue5
 infoByte := by kernel_rfl
 cellsByte := by kernel_rfl
 sizeByte := by kernel_rfl
 neB5 := by decide }
theorem Repeat_any (s : ByteArray) (c : Int) (w : World) (h0 : 0 ≤ c) (hc : c ≤ 1099511627776) (hs : s.size ≤ 100) :
 Calls Tryz.prog 234 #[.string s, .int .i64 c] w fun e w' => e = .returned (.string ⟨(Lib.repeatL s.data.toList c.toNat).toArray⟩) ∧ Ext w w' := by
 obtain ⟨n, rfl⟩ := Int.eq_ofNat_of_zero_le h0
 rw [Int.toNat_natCast]
 have : s.size * n ≤ 100 * n := Nat.mul_le_mul_right _ hs
 exact Any.strings_Repeat lays105 extra105 s n w (by omega) (by omega)
theorem WriteString_any (B b : Nat) (bs : List Value) (s : ByteArray) (w : World) (h : Lib.IsBuilder 240 5 B b bs w) (hlen : bs.length + s.size ≤ 140737488355328) (hBw : B ≤ w.heap.size) :
 Calls Tryz.prog 189 #[.pointer (some ⟨b, 0, none⟩), .string s] w fun e w' => e = .returned (.tuple #[.int .i64 s.size, .nilIface]) ∧ (Lib.BuilderAt 240 5 B b (.pointer (some ⟨b, 0, none⟩)) (bs ++ Lib.strCells s) w' ∧ Below B w w') :=
 Any.Builder_WriteString { lays105 with } extra105 B b bs s w h hlen hBw
theorem BuilderString_any (B b : Nat) (l : List UInt8) (w : World) (h : Lib.IsBuilder 240 5 B b (Lib.byteCells l) w) (hBw : B ≤ w.heap.size) :
 Calls Tryz.prog 190 #[.pointer (some ⟨b, 0, none⟩)] w fun e w' => e = .returned (.string ⟨l.toArray⟩) ∧ Below B w w' :=
 Any.Builder_String_any { lays105 with } extra105 B b l w h hBw
end Go.Proofs.YtgeengkdgdjcjaaGreat
namespace Go.Proofs.YtgeengkdgdjcjaaGreat
set_option linter.unusedSimpArgs false
open Go.RowKit
set_option linter.unusedVariables false
theorem Ext.ownGrown {W w w' : World} {B e size n : Nat} {v : Value} {xs : List Value} (he : Ext W w) (hown : w.ownsRow B e size v n xs) (hg : w.grownBy w' v.ownBlock) (hB : W.heap.size ≤ B) : Ext W w' :=
 Below.grown he hg he.size (fun k hk => Nat.le_trans hB (hown.lt k hk).1)
theorem ownsRow_ext {w w' : World} {B e size n : Nat} {v : Value} {xs : List Value} (h : w.ownsRow B e size v n xs) (he : Ext w w') : w'.ownsRow B e size v n xs := by
 refine ⟨h.1, ?_⟩
 rcases h.2 with h1 | ⟨g, cap, cur, hv, hg, hh, hrest⟩
 · exact .inl h1
 · exact .inr ⟨g, cap, cur, hv, hg, (he.block g (Blk.lt (t := e) (cs := cur) hh)).trans hh, hrest⟩
theorem ownsRow_form {w : World} {B e size n : Nat} {v : Value} {xs : List Value} (h : w.ownsRow B e size v n xs) : ∃ A c, v = .slice A n c ∧ n ≤ c := by
 rcases h.2 with ⟨h1, h2⟩ | ⟨g, cap, cur, hv, hg, hh, hn, hrest⟩
 · exact ⟨none, 0, by rw [h1, h2], by omega⟩
 · exact ⟨_, cap, hv, hn⟩
theorem ownsRow_base {w : World} {B B' e size n : Nat} {v : Value} {xs : List Value} (h : w.ownsRow B e size v n xs) (hB : B' ≤ B) : w.ownsRow B' e size v n xs := by
 refine ⟨h.1, ?_⟩
 rcases h.2 with h1 | ⟨g, cap, cur, hv, hg, hrest⟩
 · exact .inl h1
 · exact .inr ⟨g, cap, cur, hv, Nat.le_trans hB hg, hrest⟩
theorem one_at (w : World) (u : Value) (t : TypeId) : ∀ j v, [u][j]? = some v → (w.alloc (.cells #[u] t)).cell? ((⟨w.heap.size, 0, none⟩ : Addr).add j) = some v := by
 intro j v hj
 match j, hj with
 | 0, hj =>
   obtain rfl : u = v := by simpa using hj
   rw [add_mk, (Blk.new w t #[u]).cell]; rfl
theorem one_cell {u : Value} (h : u.oneCell' = true) : ∀ v ∈ [u], v.oneCell' = true := by
 intro v hv
 obtain rfl : v = u := by simpa using hv
 exact h
theorem ownsRow_empty (w : World) (e size : TypeId) : (w.alloc (.cells #[] e)).ownsRow w.heap.size e size (.slice (some ⟨w.heap.size, 0, none⟩) 0 0) 0 [] :=
 ⟨by simp, .inr ⟨w.heap.size, 0, #[], rfl, Nat.le_refl _, heap_alloc_new w _, Nat.le_refl _, Nat.zero_le _, by simp, by simp⟩⟩
end Go.Proofs.YtgeengkdgdjcjaaGreat
