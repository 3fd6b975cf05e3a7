/-
  Contracts of the library at this program: strings.Repeat, strings.Builder (laid from the shelf). No condition.
-/
import Derived.Shelf.Strings.Repeat
import Derived.Test.YtaicjimppcledaaProg
import Derived.Test.YtaicjimppcledaaMem
namespace Go.Proofs.Ytaicjimppcledaa
open Go.Shelf Go.RowKit
set_option linter.unusedVariables false

def lays105_ren : Go.Shelf.Ren := ⟨fun | 105 => 115 | 212 => 127 | 99 => 128 | 165 => 129 | 166 => 123 | 170 => 130 | 169 => 124 | 263 => 133 | 264 => 134 | 206 => 135 | 240 => 131 | 241 => 136 | 276 => 137 | 277 => 138 | n => n, fun | 9 => 9 | 3 => 3 | 4 => 4 | 20 => 20 | 0 => 0 | 46 => 148 | 109 => 159 | 5 => 5 | 72 => 153 | 76 => 156 | 51 => 121 | 146 => 165 | 53 => 167 | 148 => 168 | 70 => 151 | 37 => 130 | 75 => 155 | 127 => 164 | 164 => 170 | 80 => 158 | n => n, fun | n => n⟩
theorem lays105 : Go.Proofs.Lays.n105 Try.prog lays105_ren := {
  mixed := by kernel_rfl
  f99 := Try.func128.trans (congrArg some (by kernel_rfl))
  f105 := Try.func115.trans (congrArg some (by kernel_rfl))
  f165 := Try.func129.trans (congrArg some (by kernel_rfl))
  f166 := Try.func123.trans (congrArg some (by kernel_rfl))
  f169 := Try.func124.trans (congrArg some (by kernel_rfl))
  f170 := Try.func130.trans (congrArg some (by kernel_rfl))
  f206 := Try.func135.trans (congrArg some (by kernel_rfl))
  f212 := Try.func127.trans (congrArg some (by kernel_rfl))
  f240 := Try.func131.trans (congrArg some (by kernel_rfl))
  f241 := Try.func136.trans (congrArg some (by kernel_rfl))
  f263 := Try.func133.trans (congrArg some (by kernel_rfl))
  f264 := Try.func134.trans (congrArg some (by kernel_rfl))
  f276 := Try.func137.trans (congrArg some (by kernel_rfl))
  f277 := Try.func138.trans (congrArg some (by kernel_rfl))
  t0 := Try.underlying0
  a0 := Try.isAgg0
  z0 := Try.sizeOf0
  v0 := Try.zeroValue0
  t3 := Try.underlying3
  a3 := Try.isAgg3
  z3 := Try.sizeOf3
  v3 := Try.zeroValue3
  t4 := Try.underlying4
  a4 := Try.isAgg4
  z4 := Try.sizeOf4
  v4 := Try.zeroValue4
  t5 := Try.underlying5
  a5 := Try.isAgg5
  z5 := Try.sizeOf5
  v5 := Try.zeroValue5
  t9 := Try.underlying9
  a9 := Try.isAgg9
  z9 := Try.sizeOf9
  v9 := Try.zeroValue9
  t20 := Try.underlying20
  a20 := Try.isAgg20
  z20 := Try.sizeOf20
  v20 := Try.zeroValue20
  t37 := Try.underlying130
  a37 := Try.isAgg130
  z37 := Try.sizeOf130
  v37 := Try.zeroValue130
  t46 := Try.underlying148
  a46 := Try.isAgg148
  z46 := Try.sizeOf148
  v46 := Try.zeroValue148
  t51 := Try.underlying121
  a51 := Try.isAgg121
  z51 := Try.sizeOf121
  v51 := Try.zeroValue121
  t53 := Try.underlying167
  a53 := Try.isAgg167
  z53 := Try.sizeOf167
  v53 := Try.zeroValue167
  t70 := Try.underlying151
  a70 := Try.isAgg151
  z70 := Try.sizeOf151
  v70 := Try.zeroValue151
  t72 := Try.underlying153
  a72 := Try.isAgg153
  z72 := Try.sizeOf153
  v72 := Try.zeroValue153
  t75 := Try.underlying155
  a75 := Try.isAgg155
  z75 := Try.sizeOf155
  v75 := Try.zeroValue155
  t76 := Try.underlying156
  a76 := Try.isAgg156
  z76 := Try.sizeOf156
  v76 := Try.zeroValue156
  t109 := Try.underlying159
  a109 := Try.isAgg159
  z109 := Try.sizeOf159
  v109 := Try.zeroValue159
  t127 := Try.underlying164
  a127 := Try.isAgg164
  z127 := Try.sizeOf164
  v127 := Try.zeroValue164
  t146 := Try.underlying165
  a146 := Try.isAgg165
  z146 := Try.sizeOf165
  v146 := Try.zeroValue165
  t148 := Try.underlying168
  a148 := Try.isAgg168
  z148 := Try.sizeOf168
  v148 := Try.zeroValue168
  t164 := Try.underlying170
  a164 := Try.isAgg170
  z164 := Try.sizeOf170
  v164 := Try.zeroValue170 }
theorem extra105 : Builder.Extra Try.prog lays105_ren := {
  sizeBuilder := by kernel_rfl
  liesBuilder := by kernel_rfl
  t5 := Try.underlying5
  a5 := Try.isAgg5
  z5 := Try.sizeOf5
  v5 := Try.zeroValue5
  infoByte := by kernel_rfl
  cellsByte := by kernel_rfl
  sizeByte := by kernel_rfl
  neB5 := by decide }
theorem Repeat_any (s : ByteArray) (c : Int) (w : World) (h0 : 0 ≤ c) (hc : c ≤ 1099511627776) (hs : s.size ≤ 100) :
    Calls Try.prog 115 #[.string s, .int .i64 c] w fun e w' => e = .returned (.string ⟨(Lib.repeatL s.data.toList c.toNat).toArray⟩) ∧ Ext w w' := by
  obtain ⟨n, rfl⟩ := Int.eq_ofNat_of_zero_le h0
  rw [Int.toNat_natCast]
  have : s.size * n ≤ 100 * n := Nat.mul_le_mul_right _ hs
  exact Any.strings_Repeat lays105 extra105 s n w (by omega) (by omega)
theorem WriteString_any (B b : Nat) (bs : List Value) (s : ByteArray) (w : World) (h : Lib.IsBuilder 153 5 B b bs w) (hlen : bs.length + s.size ≤ 140737488355328) (hBw : B ≤ w.heap.size) :
    Calls Try.prog 123 #[.pointer (some ⟨b, 0, none⟩), .string s] w fun e w' => e = .returned (.tuple #[.int .i64 s.size, .nilIface]) ∧ (Lib.BuilderAt 153 5 B b (.pointer (some ⟨b, 0, none⟩)) (bs ++ Lib.strCells s) w' ∧ Below B w w') :=
  Any.Builder_WriteString { lays105 with } extra105 B b bs s w h hlen hBw
theorem BuilderString_any (B b : Nat) (l : List UInt8) (w : World) (h : Lib.IsBuilder 153 5 B b (Lib.byteCells l) w) (hBw : B ≤ w.heap.size) :
    Calls Try.prog 124 #[.pointer (some ⟨b, 0, none⟩)] w fun e w' => e = .returned (.string ⟨l.toArray⟩) ∧ Below B w w' :=
  Any.Builder_String_any { lays105 with } extra105 B b l w h hBw
theorem BuilderLen_any (B b : Nat) (bs : List Value) (w : World) (h : Lib.IsBuilder 153 5 B b bs w) :
    Calls Try.prog 130 #[.pointer (some ⟨b, 0, none⟩)] w fun e w' => e = .returned (.int .i64 bs.length) ∧ w' = w :=
  Any.Builder_Len { lays105 with } B b bs w h
end Go.Proofs.Ytaicjimppcledaa
