/- Contracts of the library, laid at this program. Conditions: as each says. -/
import Derived.Shelf.Strings.OnBuilder
import Derived.Test.YtkeckmdmmbeaiaaDoorChecked
namespace Go.Proofs
open Go.Shelf
def Tryd.join_ren : Go.Shelf.Ren := ⟨fun | 156 => 76 | 165 => 124 | 166 => 125 | 169 => 126 | 240 => 161 | 241 => 162 | 276 => 185 | 277 => 186 | n => n, fun | 31 => 109 | 9 => 9 | 3 => 3 | 4 => 4 | 0 => 0 | 20 => 20 | 72 => 153 | 76 => 157 | 70 => 151 | 37 => 75 | 75 => 156 | 127 => 190 | 164 => 209 | 5 => 5 | 80 => 159 | n => n, fun | n => n⟩
theorem Tryd.join : Go.Proofs.Lays.n156 Tryd.prog Tryd.join_ren := {
  mixed := by kernel_rfl
  f156 := Tryd.func76.trans (congrArg some (by kernel_rfl))
  f165 := Tryd.func124.trans (congrArg some (by kernel_rfl))
  f166 := Tryd.func125.trans (congrArg some (by kernel_rfl))
  f169 := Tryd.func126.trans (congrArg some (by kernel_rfl))
  f240 := Tryd.func161.trans (congrArg some (by kernel_rfl))
  f241 := Tryd.func162.trans (congrArg some (by kernel_rfl))
  f276 := Tryd.func185.trans (congrArg some (by kernel_rfl))
  f277 := Tryd.func186.trans (congrArg some (by kernel_rfl))
  t0 := Tryd.underlying0
  a0 := Tryd.isAgg0
  z0 := Tryd.sizeOf0
  v0 := Tryd.zeroValue0
  t3 := Tryd.underlying3
  a3 := Tryd.isAgg3
  z3 := Tryd.sizeOf3
  v3 := Tryd.zeroValue3
  t4 := Tryd.underlying4
  a4 := Tryd.isAgg4
  z4 := Tryd.sizeOf4
  v4 := Tryd.zeroValue4
  t9 := Tryd.underlying9
  a9 := Tryd.isAgg9
  z9 := Tryd.sizeOf9
  v9 := Tryd.zeroValue9
  t20 := Tryd.underlying20
  a20 := Tryd.isAgg20
  z20 := Tryd.sizeOf20
  v20 := Tryd.zeroValue20
  t31 := Tryd.underlying109
  a31 := Tryd.isAgg109
  z31 := Tryd.sizeOf109
  v31 := Tryd.zeroValue109
  t37 := Tryd.underlying75
  a37 := Tryd.isAgg75
  z37 := Tryd.sizeOf75
  v37 := Tryd.zeroValue75
  t70 := Tryd.underlying151
  a70 := Tryd.isAgg151
  z70 := Tryd.sizeOf151
  v70 := Tryd.zeroValue151
  t72 := Tryd.underlying153
  a72 := Tryd.isAgg153
  z72 := Tryd.sizeOf153
  v72 := Tryd.zeroValue153
  t75 := Tryd.underlying156
  a75 := Tryd.isAgg156
  z75 := Tryd.sizeOf156
  v75 := Tryd.zeroValue156
  t76 := Tryd.underlying157
  a76 := Tryd.isAgg157
  z76 := Tryd.sizeOf157
  v76 := Tryd.zeroValue157
  t127 := Tryd.underlying190
  a127 := Tryd.isAgg190
  z127 := Tryd.sizeOf190
  v127 := Tryd.zeroValue190
  t164 := Tryd.underlying209
  a164 := Tryd.isAgg209
  z164 := Tryd.sizeOf209
  v164 := Tryd.zeroValue209 }
end Go.Proofs
