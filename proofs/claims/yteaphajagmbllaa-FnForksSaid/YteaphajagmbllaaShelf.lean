/-
  Contracts of the library at this program: strings.Repeat, strings.Builder (laid from the shelf). No condition.
-/
import Derived.Shelf.Strings.Repeat
import Derived.Test.YteaphajagmbllaaProg
import Derived.Test.YteaphajagmbllaaMem
namespace Go.Proofs.Yteaphajagmbllaa
open Go.Shelf Go.RowKit
set_option linter.unusedVariables false

def lays105_ren : Go.Shelf.Ren := ⟨fun | 105 => 137 | 212 => 150 | 99 => 151 | 165 => 152 | 166 => 62 | 170 => 61 | 169 => 63 | 263 => 159 | 264 => 160 | 206 => 161 | 240 => 107 | 241 => 162 | 276 => 133 | 277 => 163 | n => n, fun | 9 => 9 | 3 => 3 | 4 => 4 | 20 => 20 | 0 => 0 | 46 => 139 | 109 => 192 | 5 => 5 | 72 => 102 | 76 => 106 | 51 => 84 | 146 => 197 | 53 => 199 | 148 => 200 | 70 => 100 | 37 => 22 | 75 => 105 | 127 => 150 | 164 => 175 | 80 => 108 | n => n, fun | n => n⟩
theorem lays105 : Go.Proofs.Lays.n105 Try.prog lays105_ren := {
  mixed := by kernel_rfl
  f99 := Try.func151.trans (congrArg some (by kernel_rfl))
  f105 := Try.func137.trans (congrArg some (by kernel_rfl))
  f165 := Try.func152.trans (congrArg some (by kernel_rfl))
  f166 := Try.func62.trans (congrArg some (by kernel_rfl))
  f169 := Try.func63.trans (congrArg some (by kernel_rfl))
  f170 := Try.func61.trans (congrArg some (by kernel_rfl))
  f206 := Try.func161.trans (congrArg some (by kernel_rfl))
  f212 := Try.func150.trans (congrArg some (by kernel_rfl))
  f240 := Try.func107.trans (congrArg some (by kernel_rfl))
  f241 := Try.func162.trans (congrArg some (by kernel_rfl))
  f263 := Try.func159.trans (congrArg some (by kernel_rfl))
  f264 := Try.func160.trans (congrArg some (by kernel_rfl))
  f276 := Try.func133.trans (congrArg some (by kernel_rfl))
  f277 := Try.func163.trans (congrArg some (by kernel_rfl))
  t0 := Try.underlying0
  a0 := Try.isAgg0
  z0 := Try.sizeOf0
  v0 := Try.zeroValue0
  t3 := Try.underlying3
  a3 := Try.isAgg3
  z3 := Try.sizeOf3
  v3 := Try.zeroValue3
  t4 := Try.underlying4
  a4 := Try.isAgg4
  z4 := Try.sizeOf4
  v4 := Try.zeroValue4
  t5 := Try.underlying5
  a5 := Try.isAgg5
  z5 := Try.sizeOf5
  v5 := Try.zeroValue5
  t9 := Try.underlying9
  a9 := Try.isAgg9
  z9 := Try.sizeOf9
  v9 := Try.zeroValue9
  t20 := Try.underlying20
  a20 := Try.isAgg20
  z20 := Try.sizeOf20
  v20 := Try.zeroValue20
  t37 := Try.underlying22
  a37 := Try.isAgg22
  z37 := Try.sizeOf22
  v37 := Try.zeroValue22
  t46 := Try.underlying139
  a46 := Try.isAgg139
  z46 := Try.sizeOf139
  v46 := Try.zeroValue139
  t51 := Try.underlying84
  a51 := Try.isAgg84
  z51 := Try.sizeOf84
  v51 := Try.zeroValue84
  t53 := Try.underlying199
  a53 := Try.isAgg199
  z53 := Try.sizeOf199
  v53 := Try.zeroValue199
  t70 := Try.underlying100
  a70 := Try.isAgg100
  z70 := Try.sizeOf100
  v70 := Try.zeroValue100
  t72 := Try.underlying102
  a72 := Try.isAgg102
  z72 := Try.sizeOf102
  v72 := Try.zeroValue102
  t75 := Try.underlying105
  a75 := Try.isAgg105
  z75 := Try.sizeOf105
  v75 := Try.zeroValue105
  t76 := Try.underlying106
  a76 := Try.isAgg106
  z76 := Try.sizeOf106
  v76 := Try.zeroValue106
  t109 := Try.underlying192
  a109 := Try.isAgg192
  z109 := Try.sizeOf192
  v109 := Try.zeroValue192
  t127 := Try.underlying150
  a127 := Try.isAgg150
  z127 := Try.sizeOf150
  v127 := Try.zeroValue150
  t146 := Try.underlying197
  a146 := Try.isAgg197
  z146 := Try.sizeOf197
  v146 := Try.zeroValue197
  t148 := Try.underlying200
  a148 := Try.isAgg200
  z148 := Try.sizeOf200
  v148 := Try.zeroValue200
  t164 := Try.underlying175
  a164 := Try.isAgg175
  z164 := Try.sizeOf175
  v164 := Try.zeroValue175 }
theorem extra105 : Builder.Extra Try.prog lays105_ren := {
  sizeBuilder := by kernel_rfl
  liesBuilder := by kernel_rfl
  t5 := Try.underlying5
  a5 := Try.isAgg5
  z5 := Try.sizeOf5
  v5 := Try.zeroValue5
  infoByte := by kernel_rfl
  cellsByte := by kernel_rfl
  sizeByte := by kernel_rfl
  neB5 := by decide }
theorem Repeat_any (s : ByteArray) (c : Int) (w : World) (h0 : 0 ≤ c) (hc : c ≤ 1099511627776) (hs : s.size ≤ 100) :
    Calls Try.prog 137 #[.string s, .int .i64 c] w fun e w' => e = .returned (.string ⟨(Lib.repeatL s.data.toList c.toNat).toArray⟩) ∧ Ext w w' := by
  obtain ⟨n, rfl⟩ := Int.eq_ofNat_of_zero_le h0
  rw [Int.toNat_natCast]
  have : s.size * n ≤ 100 * n := Nat.mul_le_mul_right _ hs
  exact Any.strings_Repeat lays105 extra105 s n w (by omega) (by omega)
theorem WriteString_any (B b : Nat) (bs : List Value) (s : ByteArray) (w : World) (h : Lib.IsBuilder 102 5 B b bs w) (hlen : bs.length + s.size ≤ 140737488355328) (hBw : B ≤ w.heap.size) :
    Calls Try.prog 62 #[.pointer (some ⟨b, 0, none⟩), .string s] w fun e w' => e = .returned (.tuple #[.int .i64 s.size, .nilIface]) ∧ (Lib.BuilderAt 102 5 B b (.pointer (some ⟨b, 0, none⟩)) (bs ++ Lib.strCells s) w' ∧ Below B w w') :=
  Any.Builder_WriteString { lays105 with } extra105 B b bs s w h hlen hBw
theorem BuilderString_any (B b : Nat) (l : List UInt8) (w : World) (h : Lib.IsBuilder 102 5 B b (Lib.byteCells l) w) (hBw : B ≤ w.heap.size) :
    Calls Try.prog 63 #[.pointer (some ⟨b, 0, none⟩)] w fun e w' => e = .returned (.string ⟨l.toArray⟩) ∧ Below B w w' :=
  Any.Builder_String_any { lays105 with } extra105 B b l w h hBw
theorem BuilderLen_any (B b : Nat) (bs : List Value) (w : World) (h : Lib.IsBuilder 102 5 B b bs w) :
    Calls Try.prog 61 #[.pointer (some ⟨b, 0, none⟩)] w fun e w' => e = .returned (.int .i64 bs.length) ∧ w' = w :=
  Any.Builder_Len { lays105 with } B b bs w h
end Go.Proofs.Yteaphajagmbllaa
