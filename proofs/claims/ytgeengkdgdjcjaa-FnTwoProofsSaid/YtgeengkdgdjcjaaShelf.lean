/-
  Shelf: No condition.
-/
import Derived.Shelf.Strings.Repeat
import Derived.Test.YtgeengkdgdjcjaaProg
import Derived.Test.YtgeengkdgdjcjaaMem
namespace Go.Proofs.Ytgeengkdgdjcjaa
open Go.Shelf Go.RowKit
set_option linter.unusedSimpArgs false
set_option linter.unusedVariables false
def lays105_ren : Go.Shelf.Ren := ⟨fun | 105 => 62 | 212 => 74 | 99 => 75 | 165 => 76 | 166 => 70 | 170 => 77 | 169 => 71 | 263 => 80 | 264 => 81 | 206 => 82 | 240 => 78 | 241 => 83 | 276 => 84 | 277 => 85 | n => n, fun | 9 => 9 | 3 => 3 | 4 => 4 | 20 => 20 | 0 => 0 | 46 => 64 | 109 => 110 | 5 => 5 | 72 => 104 | 76 => 107 | 51 => 81 | 146 => 116 | 53 => 101 | 148 => 118 | 70 => 102 | 37 => 22 | 75 => 106 | 127 => 115 | 164 => 120 | 80 => 109 | n => n, fun | n => n⟩
theorem lays105 : Go.Proofs.Lays.n105 Try.prog lays105_ren := {
 mixed := by kernel_rfl
 f99 := Try.func75.trans (congrArg some (by kernel_rfl))
 f105 := Try.func62.trans (congrArg some (by kernel_rfl))
 f165 := Try.func76.trans (congrArg some (by kernel_rfl))
 f166 := Try.func70.trans (congrArg some (by kernel_rfl))
 f169 := Try.func71.trans (congrArg some (by kernel_rfl))
 f170 := Try.func77.trans (congrArg some (by kernel_rfl))
 f206 := Try.func82.trans (congrArg some (by kernel_rfl))
 f212 := Try.func74.trans (congrArg some (by kernel_rfl))
 f240 := Try.func78.trans (congrArg some (by kernel_rfl))
 f241 := Try.func83.trans (congrArg some (by kernel_rfl))
 f263 := Try.func80.trans (congrArg some (by kernel_rfl))
 f264 := Try.func81.trans (congrArg some (by kernel_rfl))
 f276 := Try.func84.trans (congrArg some (by kernel_rfl))
 f277 := Try.func85.trans (congrArg some (by kernel_rfl))
 t0 := Try.underlying0
 a0 := Try.isAgg0
 z0 := Try.sizeOf0
 v0 := Try.zeroValue0
 t3 := Try.underlying3
 a3 := Try.isAgg3
 z3 := Try.sizeOf3
 v3 := Try.zeroValue3
 t4 := Try.underlying4
 a4 := Try.isAgg4
 z4 := Try.sizeOf4
 v4 := Try.zeroValue4
 t5 := Try.underlying5
 a5 := Try.isAgg5
 z5 := Try.sizeOf5
 v5 := Try.zeroValue5
 t9 := Try.underlying9
 a9 := Try.isAgg9
 z9 := Try.sizeOf9
 v9 := Try.zeroValue9
 t20 := Try.underlying20
 a20 := Try.isAgg20
 z20 := Try.sizeOf20
 v20 := Try.zeroValue20
 t37 := Try.underlying22
 a37 := Try.isAgg22
 z37 := Try.sizeOf22
 v37 := Try.zeroValue22
 t46 := Try.underlying64
 a46 := Try.isAgg64
 z46 := Try.sizeOf64
 v46 := Try.zeroValue64
 t51 := Try.underlying81
 a51 := Try.isAgg81
 z51 := Try.sizeOf81
 v51 := Try.zeroValue81
 t53 := Try.underlying101
 a53 := Try.isAgg101
 z53 := Try.sizeOf101
 v53 := Try.zeroValue101
 t70 := Try.underlying102
 a70 := Try.isAgg102
 z70 := Try.sizeOf102
 v70 := Try.zeroValue102
 t72 := Try.underlying104
 a72 := Try.isAgg104
 z72 := Try.sizeOf104
 v72 := Try.zeroValue104
 t75 := Try.underlying106
 a75 := Try.isAgg106
 z75 := Try.sizeOf106
 v75 := Try.zeroValue106
 t76 := Try.underlying107
 a76 := Try.isAgg107
 z76 := Try.sizeOf107
 v76 := Try.zeroValue107
 t109 := Try.underlying110
 a109 := Try.isAgg110
 z109 := Try.sizeOf110
 v109 := Try.zeroValue110
 t127 := Try.underlying115
 a127 := Try.isAgg115
 z127 := Try.sizeOf115
 v127 := Try.zeroValue115
 t146 := Try.underlying116
 a146 := Try.isAgg116
 z146 := Try.sizeOf116
 v146 := Try.zeroValue116
 t148 := Try.underlying118
 a148 := Try.isAgg118
 z148 := Try.sizeOf118
 v148 := Try.zeroValue118
 t164 := Try.underlying120
 a164 := Try.isAgg120
 z164 := Try.sizeOf120
 v164 := Try.zeroValue120 }
theorem extra105 : Builder.Extra Try.prog lays105_ren := {
 sizeBuilder := by kernel_rfl
 liesBuilder := by kernel_rfl
 t5 := Try.underlying5
 a5 := Try.isAgg5
 z5 := Try.sizeOf5
 v5 := Try.zeroValue5
 infoByte := by kernel_rfl
 cellsByte := by kernel_rfl
 sizeByte := by kernel_rfl
 neB5 := by decide }
theorem Repeat_any (s : ByteArray) (c : Int) (w : World) (h0 : 0 ≤ c) (hc : c ≤ 1099511627776) (hs : s.size ≤ 100) :
 Calls Try.prog 62 #[.string s, .int .i64 c] w fun e w' => e = .returned (.string ⟨(Lib.repeatL s.data.toList c.toNat).toArray⟩) ∧ Ext w w' := by
 obtain ⟨n, rfl⟩ := Int.eq_ofNat_of_zero_le h0
 rw [Int.toNat_natCast]
 have : s.size * n ≤ 100 * n := Nat.mul_le_mul_right _ hs
 exact Any.strings_Repeat lays105 extra105 s n w (by omega) (by omega)
theorem WriteString_any (B b : Nat) (bs : List Value) (s : ByteArray) (w : World) (h : Lib.IsBuilder 104 5 B b bs w) (hlen : bs.length + s.size ≤ 140737488355328) (hBw : B ≤ w.heap.size) :
 Calls Try.prog 70 #[.pointer (some ⟨b, 0, none⟩), .string s] w fun e w' => e = .returned (.tuple #[.int .i64 s.size, .nilIface]) ∧ (Lib.BuilderAt 104 5 B b (.pointer (some ⟨b, 0, none⟩)) (bs ++ Lib.strCells s) w' ∧ Below B w w') :=
 Any.Builder_WriteString { lays105 with } extra105 B b bs s w h hlen hBw
theorem BuilderString_any (B b : Nat) (l : List UInt8) (w : World) (h : Lib.IsBuilder 104 5 B b (Lib.byteCells l) w) (hBw : B ≤ w.heap.size) :
 Calls Try.prog 71 #[.pointer (some ⟨b, 0, none⟩)] w fun e w' => e = .returned (.string ⟨l.toArray⟩) ∧ Below B w w' :=
 Any.Builder_String_any { lays105 with } extra105 B b l w h hBw
end Go.Proofs.Ytgeengkdgdjcjaa
