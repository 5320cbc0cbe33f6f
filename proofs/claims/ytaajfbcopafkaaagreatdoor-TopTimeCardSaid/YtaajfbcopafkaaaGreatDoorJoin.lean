/- strings.Join: the kit's contract, laid over the seat's program. Printed by a program of this seat. -/
import Derived.Test.YtaajfbcopafkaaaGreatDoorChecked
import Derived.Shelf.Strings.OnBuilder
import Derived.KernelRfl
namespace Go.Proofs.YtaajfbcopafkaaaGreatDoor.Ai
open Go Go.Proofs Go.Shelf
def jren : Ren := ⟨fun | 156 => 144 | 165 => 136 | 166 => 137 | 169 => 139 | 240 => 192 | 241 => 193 | 276 => 234 | 277 => 235 | n => n,
  fun | 0 => 0 | 3 => 3 | 4 => 4 | 5 => 5 | 9 => 9 | 20 => 20 | 31 => 210 | 37 => 32 | 70 => 197 | 72 => 199 | 75 => 202 | 76 => 203 | 80 => 206 | 127 => 265 | 164 => 301 | n => n, fun n => n⟩
theorem jlays : Lays.n156 Tryz.prog jren where
  mixed := by kernel_rfl
  f156 := Tryz.func144.trans (by kernel_rfl)
  f165 := Tryz.func136.trans (by kernel_rfl)
  f166 := Tryz.func137.trans (by kernel_rfl)
  f169 := Tryz.func139.trans (by kernel_rfl)
  f240 := Tryz.func192.trans (by kernel_rfl)
  f241 := Tryz.func193.trans (by kernel_rfl)
  f276 := Tryz.func234.trans (by kernel_rfl)
  f277 := Tryz.func235.trans (by kernel_rfl)
  t0 := Tryz.underlying0
  a0 := Tryz.isAgg0
  z0 := Tryz.sizeOf0
  v0 := Tryz.zeroValue0
  t3 := Tryz.underlying3
  a3 := Tryz.isAgg3
  z3 := Tryz.sizeOf3
  v3 := Tryz.zeroValue3
  t4 := Tryz.underlying4
  a4 := Tryz.isAgg4
  z4 := Tryz.sizeOf4
  v4 := Tryz.zeroValue4
  t9 := Tryz.underlying9
  a9 := Tryz.isAgg9
  z9 := Tryz.sizeOf9
  v9 := Tryz.zeroValue9
  t20 := Tryz.underlying20
  a20 := Tryz.isAgg20
  z20 := Tryz.sizeOf20
  v20 := Tryz.zeroValue20
  t31 := Tryz.underlying210
  a31 := Tryz.isAgg210
  z31 := Tryz.sizeOf210
  v31 := Tryz.zeroValue210
  t37 := Tryz.underlying32
  a37 := Tryz.isAgg32
  z37 := Tryz.sizeOf32
  v37 := Tryz.zeroValue32
  t70 := Tryz.underlying197
  a70 := Tryz.isAgg197
  z70 := Tryz.sizeOf197
  v70 := Tryz.zeroValue197
  t72 := Tryz.underlying199
  a72 := Tryz.isAgg199
  z72 := Tryz.sizeOf199
  v72 := Tryz.zeroValue199
  t75 := Tryz.underlying202
  a75 := Tryz.isAgg202
  z75 := Tryz.sizeOf202
  v75 := Tryz.zeroValue202
  t76 := Tryz.underlying203
  a76 := Tryz.isAgg203
  z76 := Tryz.sizeOf203
  v76 := Tryz.zeroValue203
  t127 := Tryz.underlying265
  a127 := Tryz.isAgg265
  z127 := Tryz.sizeOf265
  v127 := Tryz.zeroValue265
  t164 := Tryz.underlying301
  a164 := Tryz.isAgg301
  z164 := Tryz.sizeOf301
  v164 := Tryz.zeroValue301
theorem jextra : Builder.Extra Tryz.prog jren where
  sizeBuilder := by kernel_rfl
  liesBuilder := by kernel_rfl
  t5 := Tryz.underlying5
  a5 := Tryz.isAgg5
  z5 := Tryz.sizeOf5
  v5 := Tryz.zeroValue5
  infoByte := by kernel_rfl
  cellsByte := by kernel_rfl
  sizeByte := by kernel_rfl
  neB5 := by decide
end Go.Proofs.YtaajfbcopafkaaaGreatDoor.Ai
