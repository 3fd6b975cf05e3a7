/-
  Contracts of the library at this program: strings.Repeat, strings.Builder (laid from the shelf). No condition.
-/
import Derived.Shelf.Strings.Repeat
import Derived.Test.YtcpfgldcijkhlaaProg
import Derived.Test.YtcpfgldcijkhlaaMem
namespace Go.Proofs.Ytcpfgldcijkhlaa
open Go.Shelf Go.RowKit
set_option linter.unusedVariables false

def lays105_ren : Go.Shelf.Ren := ⟨fun | 105 => 200 | 212 => 216 | 99 => 217 | 165 => 218 | 166 => 116 | 170 => 115 | 169 => 117 | 263 => 226 | 264 => 227 | 206 => 228 | 240 => 167 | 241 => 229 | 276 => 196 | 277 => 232 | n => n, fun | 9 => 9 | 3 => 3 | 4 => 4 | 20 => 20 | 0 => 0 | 46 => 219 | 109 => 285 | 5 => 5 | 72 => 183 | 76 => 187 | 51 => 139 | 146 => 291 | 53 => 293 | 148 => 294 | 70 => 181 | 37 => 22 | 75 => 186 | 127 => 236 | 164 => 267 | 80 => 189 | n => n, fun | n => n⟩
theorem lays105 : Go.Proofs.Lays.n105 Try.prog lays105_ren := {
  mixed := by kernel_rfl
  f99 := Try.func217.trans (congrArg some (by kernel_rfl))
  f105 := Try.func200.trans (congrArg some (by kernel_rfl))
  f165 := Try.func218.trans (congrArg some (by kernel_rfl))
  f166 := Try.func116.trans (congrArg some (by kernel_rfl))
  f169 := Try.func117.trans (congrArg some (by kernel_rfl))
  f170 := Try.func115.trans (congrArg some (by kernel_rfl))
  f206 := Try.func228.trans (congrArg some (by kernel_rfl))
  f212 := Try.func216.trans (congrArg some (by kernel_rfl))
  f240 := Try.func167.trans (congrArg some (by kernel_rfl))
  f241 := Try.func229.trans (congrArg some (by kernel_rfl))
  f263 := Try.func226.trans (congrArg some (by kernel_rfl))
  f264 := Try.func227.trans (congrArg some (by kernel_rfl))
  f276 := Try.func196.trans (congrArg some (by kernel_rfl))
  f277 := Try.func232.trans (congrArg some (by kernel_rfl))
  t0 := Try.underlying0
  a0 := Try.isAgg0
  z0 := Try.sizeOf0
  v0 := Try.zeroValue0
  t3 := Try.underlying3
  a3 := Try.isAgg3
  z3 := Try.sizeOf3
  v3 := Try.zeroValue3
  t4 := Try.underlying4
  a4 := Try.isAgg4
  z4 := Try.sizeOf4
  v4 := Try.zeroValue4
  t5 := Try.underlying5
  a5 := Try.isAgg5
  z5 := Try.sizeOf5
  v5 := Try.zeroValue5
  t9 := Try.underlying9
  a9 := Try.isAgg9
  z9 := Try.sizeOf9
  v9 := Try.zeroValue9
  t20 := Try.underlying20
  a20 := Try.isAgg20
  z20 := Try.sizeOf20
  v20 := Try.zeroValue20
  t37 := Try.underlying22
  a37 := Try.isAgg22
  z37 := Try.sizeOf22
  v37 := Try.zeroValue22
  t46 := Try.underlying219
  a46 := Try.isAgg219
  z46 := Try.sizeOf219
  v46 := Try.zeroValue219
  t51 := Try.underlying139
  a51 := Try.isAgg139
  z51 := Try.sizeOf139
  v51 := Try.zeroValue139
  t53 := Try.underlying293
  a53 := Try.isAgg293
  z53 := Try.sizeOf293
  v53 := Try.zeroValue293
  t70 := Try.underlying181
  a70 := Try.isAgg181
  z70 := Try.sizeOf181
  v70 := Try.zeroValue181
  t72 := Try.underlying183
  a72 := Try.isAgg183
  z72 := Try.sizeOf183
  v72 := Try.zeroValue183
  t75 := Try.underlying186
  a75 := Try.isAgg186
  z75 := Try.sizeOf186
  v75 := Try.zeroValue186
  t76 := Try.underlying187
  a76 := Try.isAgg187
  z76 := Try.sizeOf187
  v76 := Try.zeroValue187
  t109 := Try.underlying285
  a109 := Try.isAgg285
  z109 := Try.sizeOf285
  v109 := Try.zeroValue285
  t127 := Try.underlying236
  a127 := Try.isAgg236
  z127 := Try.sizeOf236
  v127 := Try.zeroValue236
  t146 := Try.underlying291
  a146 := Try.isAgg291
  z146 := Try.sizeOf291
  v146 := Try.zeroValue291
  t148 := Try.underlying294
  a148 := Try.isAgg294
  z148 := Try.sizeOf294
  v148 := Try.zeroValue294
  t164 := Try.underlying267
  a164 := Try.isAgg267
  z164 := Try.sizeOf267
  v164 := Try.zeroValue267 }
theorem extra105 : Builder.Extra Try.prog lays105_ren := {
  sizeBuilder := by kernel_rfl
  liesBuilder := by kernel_rfl
  t5 := Try.underlying5
  a5 := Try.isAgg5
  z5 := Try.sizeOf5
  v5 := Try.zeroValue5
  infoByte := by kernel_rfl
  cellsByte := by kernel_rfl
  sizeByte := by kernel_rfl
  neB5 := by decide }
theorem Repeat_any (s : ByteArray) (c : Int) (w : World) (h0 : 0 ≤ c) (hc : c ≤ 1099511627776) (hs : s.size ≤ 100) :
    Calls Try.prog 200 #[.string s, .int .i64 c] w fun e w' => e = .returned (.string ⟨(Lib.repeatL s.data.toList c.toNat).toArray⟩) ∧ Ext w w' := by
  obtain ⟨n, rfl⟩ := Int.eq_ofNat_of_zero_le h0
  rw [Int.toNat_natCast]
  have : s.size * n ≤ 100 * n := Nat.mul_le_mul_right _ hs
  exact Any.strings_Repeat lays105 extra105 s n w (by omega) (by omega)
theorem WriteString_any (B b : Nat) (bs : List Value) (s : ByteArray) (w : World) (h : Lib.IsBuilder 183 5 B b bs w) (hlen : bs.length + s.size ≤ 140737488355328) (hBw : B ≤ w.heap.size) :
    Calls Try.prog 116 #[.pointer (some ⟨b, 0, none⟩), .string s] w fun e w' => e = .returned (.tuple #[.int .i64 s.size, .nilIface]) ∧ (Lib.BuilderAt 183 5 B b (.pointer (some ⟨b, 0, none⟩)) (bs ++ Lib.strCells s) w' ∧ Below B w w') :=
  Any.Builder_WriteString { lays105 with } extra105 B b bs s w h hlen hBw
theorem BuilderString_any (B b : Nat) (l : List UInt8) (w : World) (h : Lib.IsBuilder 183 5 B b (Lib.byteCells l) w) (hBw : B ≤ w.heap.size) :
    Calls Try.prog 117 #[.pointer (some ⟨b, 0, none⟩)] w fun e w' => e = .returned (.string ⟨l.toArray⟩) ∧ Below B w w' :=
  Any.Builder_String_any { lays105 with } extra105 B b l w h hBw
theorem BuilderLen_any (B b : Nat) (bs : List Value) (w : World) (h : Lib.IsBuilder 183 5 B b bs w) :
    Calls Try.prog 115 #[.pointer (some ⟨b, 0, none⟩)] w fun e w' => e = .returned (.int .i64 bs.length) ∧ w' = w :=
  Any.Builder_Len { lays105 with } B b bs w h
end Go.Proofs.Ytcpfgldcijkhlaa
