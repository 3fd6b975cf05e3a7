/-
  Contracts of the library at this program: strings.Repeat, strings.Builder (laid from the shelf). No condition.
-/
import Derived.Shelf.Strings.Repeat
import Derived.Test.YtkcjhfidgnbdiaaProg
import Derived.Test.YtkcjhfidgnbdiaaMem
namespace Go.Proofs.Ytkcjhfidgnbdiaa
open Go.Shelf Go.RowKit
set_option linter.unusedSimpArgs false
set_option linter.unusedVariables false

def lays105_ren : Go.Shelf.Ren := ⟨fun | 105 => 113 | 212 => 127 | 99 => 128 | 165 => 129 | 166 => 123 | 170 => 130 | 169 => 124 | 263 => 133 | 264 => 134 | 206 => 135 | 240 => 131 | 241 => 136 | 276 => 137 | 277 => 138 | n => n, fun | 9 => 9 | 3 => 3 | 4 => 4 | 20 => 20 | 0 => 0 | 46 => 100 | 109 => 173 | 5 => 5 | 72 => 167 | 76 => 170 | 51 => 137 | 146 => 179 | 53 => 164 | 148 => 181 | 70 => 165 | 37 => 22 | 75 => 169 | 127 => 178 | 164 => 183 | 80 => 172 | n => n, fun | n => n⟩
theorem lays105 : Go.Proofs.Lays.n105 Try.prog lays105_ren := {
  mixed := by kernel_rfl
  f99 := Try.func128.trans (congrArg some (by kernel_rfl))
  f105 := Try.func113.trans (congrArg some (by kernel_rfl))
  f165 := Try.func129.trans (congrArg some (by kernel_rfl))
  f166 := Try.func123.trans (congrArg some (by kernel_rfl))
  f169 := Try.func124.trans (congrArg some (by kernel_rfl))
  f170 := Try.func130.trans (congrArg some (by kernel_rfl))
  f206 := Try.func135.trans (congrArg some (by kernel_rfl))
  f212 := Try.func127.trans (congrArg some (by kernel_rfl))
  f240 := Try.func131.trans (congrArg some (by kernel_rfl))
  f241 := Try.func136.trans (congrArg some (by kernel_rfl))
  f263 := Try.func133.trans (congrArg some (by kernel_rfl))
  f264 := Try.func134.trans (congrArg some (by kernel_rfl))
  f276 := Try.func137.trans (congrArg some (by kernel_rfl))
  f277 := Try.func138.trans (congrArg some (by kernel_rfl))
  t0 := Try.underlying0
  a0 := Try.isAgg0
  z0 := Try.sizeOf0
  v0 := Try.zeroValue0
  t3 := Try.underlying3
  a3 := Try.isAgg3
  z3 := Try.sizeOf3
  v3 := Try.zeroValue3
  t4 := Try.underlying4
  a4 := Try.isAgg4
  z4 := Try.sizeOf4
  v4 := Try.zeroValue4
  t5 := Try.underlying5
  a5 := Try.isAgg5
  z5 := Try.sizeOf5
  v5 := Try.zeroValue5
  t9 := Try.underlying9
  a9 := Try.isAgg9
  z9 := Try.sizeOf9
  v9 := Try.zeroValue9
  t20 := Try.underlying20
  a20 := Try.isAgg20
  z20 := Try.sizeOf20
  v20 := Try.zeroValue20
  t37 := Try.underlying22
  a37 := Try.isAgg22
  z37 := Try.sizeOf22
  v37 := Try.zeroValue22
  t46 := Try.underlying100
  a46 := Try.isAgg100
  z46 := Try.sizeOf100
  v46 := Try.zeroValue100
  t51 := Try.underlying137
  a51 := Try.isAgg137
  z51 := Try.sizeOf137
  v51 := Try.zeroValue137
  t53 := Try.underlying164
  a53 := Try.isAgg164
  z53 := Try.sizeOf164
  v53 := Try.zeroValue164
  t70 := Try.underlying165
  a70 := Try.isAgg165
  z70 := Try.sizeOf165
  v70 := Try.zeroValue165
  t72 := Try.underlying167
  a72 := Try.isAgg167
  z72 := Try.sizeOf167
  v72 := Try.zeroValue167
  t75 := Try.underlying169
  a75 := Try.isAgg169
  z75 := Try.sizeOf169
  v75 := Try.zeroValue169
  t76 := Try.underlying170
  a76 := Try.isAgg170
  z76 := Try.sizeOf170
  v76 := Try.zeroValue170
  t109 := Try.underlying173
  a109 := Try.isAgg173
  z109 := Try.sizeOf173
  v109 := Try.zeroValue173
  t127 := Try.underlying178
  a127 := Try.isAgg178
  z127 := Try.sizeOf178
  v127 := Try.zeroValue178
  t146 := Try.underlying179
  a146 := Try.isAgg179
  z146 := Try.sizeOf179
  v146 := Try.zeroValue179
  t148 := Try.underlying181
  a148 := Try.isAgg181
  z148 := Try.sizeOf181
  v148 := Try.zeroValue181
  t164 := Try.underlying183
  a164 := Try.isAgg183
  z164 := Try.sizeOf183
  v164 := Try.zeroValue183 }
theorem extra105 : Builder.Extra Try.prog lays105_ren := {
  sizeBuilder := by kernel_rfl
  liesBuilder := by kernel_rfl
  t5 := Try.underlying5
  a5 := Try.isAgg5
  z5 := Try.sizeOf5
  v5 := Try.zeroValue5
  infoByte := by kernel_rfl
  cellsByte := by kernel_rfl
  sizeByte := by kernel_rfl
  neB5 := by decide }
theorem Repeat_any (s : ByteArray) (c : Int) (w : World) (h0 : 0 ≤ c) (hc : c ≤ 1099511627776) (hs : s.size ≤ 100) :
    Calls Try.prog 113 #[.string s, .int .i64 c] w fun e w' => e = .returned (.string ⟨(Lib.repeatL s.data.toList c.toNat).toArray⟩) ∧ Ext w w' := by
  obtain ⟨n, rfl⟩ := Int.eq_ofNat_of_zero_le h0
  rw [Int.toNat_natCast]
  have : s.size * n ≤ 100 * n := Nat.mul_le_mul_right _ hs
  exact Any.strings_Repeat lays105 extra105 s n w (by omega) (by omega)
theorem WriteString_any (B b : Nat) (bs : List Value) (s : ByteArray) (w : World) (h : Lib.IsBuilder 167 5 B b bs w) (hlen : bs.length + s.size ≤ 140737488355328) (hBw : B ≤ w.heap.size) :
    Calls Try.prog 123 #[.pointer (some ⟨b, 0, none⟩), .string s] w fun e w' => e = .returned (.tuple #[.int .i64 s.size, .nilIface]) ∧ (Lib.BuilderAt 167 5 B b (.pointer (some ⟨b, 0, none⟩)) (bs ++ Lib.strCells s) w' ∧ Below B w w') :=
  Any.Builder_WriteString { lays105 with } extra105 B b bs s w h hlen hBw
theorem BuilderString_any (B b : Nat) (l : List UInt8) (w : World) (h : Lib.IsBuilder 167 5 B b (Lib.byteCells l) w) (hBw : B ≤ w.heap.size) :
    Calls Try.prog 124 #[.pointer (some ⟨b, 0, none⟩)] w fun e w' => e = .returned (.string ⟨l.toArray⟩) ∧ Below B w w' :=
  Any.Builder_String_any { lays105 with } extra105 B b l w h hBw
theorem BuilderLen_any (B b : Nat) (bs : List Value) (w : World) (h : Lib.IsBuilder 167 5 B b bs w) :
    Calls Try.prog 130 #[.pointer (some ⟨b, 0, none⟩)] w fun e w' => e = .returned (.int .i64 bs.length) ∧ w' = w :=
  Any.Builder_Len { lays105 with } B b bs w h
end Go.Proofs.Ytkcjhfidgnbdiaa
