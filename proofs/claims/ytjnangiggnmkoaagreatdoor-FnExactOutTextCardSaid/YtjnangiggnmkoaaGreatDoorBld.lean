/- strings.Builder at this program: the library's contracts laid by hand (the tool lays them not here). -/
import Derived.Test.YtjnangiggnmkoaaGreatDoorCTxtS
import Derived.Shelf.Strings.BuilderF
import Derived.Shelf.Strings.BuilderK
import Derived.Lib.OthersKept
import Derived.Test.YtjnangiggnmkoaaGreatDoorShelf
namespace Go.Proofs
open Go.Shelf
set_option maxRecDepth 100000
set_option linter.unusedVariables false
def Tryz.bld_ren : Go.Shelf.Ren := ⟨fun | 166 => 62 | 240 => 88 | 276 => 106 | 169 => 33 | n => n, fun | 0 => 0 | 3 => 3 | 4 => 4 | 9 => 9 | 20 => 20 | 37 => 36 | 70 => 57 | 72 => 59 | 75 => 89 | 80 => 61 | 164 => 147 | 127 => 95 | 5 => 5 | n => n, fun | n => n⟩
theorem Tryz.lays240 : Go.Proofs.Lays.n240 Tryz.prog Tryz.bld_ren := {
  mixed := by kernel_rfl
  f240 := Tryz.func88.trans (congrArg some (by kernel_rfl))
  f276 := Tryz.func106.trans (congrArg some (by kernel_rfl))
  t0 := by first | exact Tryz.underlying0 | kernel_rfl
  a0 := by first | exact Tryz.isAgg0 | (intro w; kernel_rfl)
  z0 := by first | exact Tryz.sizeOf0 | (intro w; kernel_rfl)
  v0 := by first | exact Tryz.zeroValue0 | (intro w; kernel_rfl)
  t4 := by first | exact Tryz.underlying4 | kernel_rfl
  a4 := by first | exact Tryz.isAgg4 | (intro w; kernel_rfl)
  z4 := by first | exact Tryz.sizeOf4 | (intro w; kernel_rfl)
  v4 := by first | exact Tryz.zeroValue4 | (intro w; kernel_rfl)
  t9 := by first | exact Tryz.underlying9 | kernel_rfl
  a9 := by first | exact Tryz.isAgg9 | (intro w; kernel_rfl)
  z9 := by first | exact Tryz.sizeOf9 | (intro w; kernel_rfl)
  v9 := by first | exact Tryz.zeroValue9 | (intro w; kernel_rfl)
  t20 := by first | exact Tryz.underlying20 | kernel_rfl
  a20 := by first | exact Tryz.isAgg20 | (intro w; kernel_rfl)
  z20 := by first | exact Tryz.sizeOf20 | (intro w; kernel_rfl)
  v20 := by first | exact Tryz.zeroValue20 | (intro w; kernel_rfl)
  t70 := by first | exact Tryz.underlying57 | kernel_rfl
  a70 := by first | exact Tryz.isAgg57 | (intro w; kernel_rfl)
  z70 := by first | exact Tryz.sizeOf57 | (intro w; kernel_rfl)
  v70 := by first | exact Tryz.zeroValue57 | (intro w; kernel_rfl)
  t72 := by first | exact Tryz.underlying59 | kernel_rfl
  a72 := by first | exact Tryz.isAgg59 | (intro w; kernel_rfl)
  z72 := by first | exact Tryz.sizeOf59 | (intro w; kernel_rfl)
  v72 := by first | exact Tryz.zeroValue59 | (intro w; kernel_rfl)
  t164 := by first | exact Tryz.underlying147 | kernel_rfl
  a164 := by first | exact Tryz.isAgg147 | (intro w; kernel_rfl)
  z164 := by first | exact Tryz.sizeOf147 | (intro w; kernel_rfl)
  v164 := by first | exact Tryz.zeroValue147 | (intro w; kernel_rfl)
}
theorem Tryz.lays166 : Go.Proofs.Lays.n166 Tryz.prog Tryz.bld_ren := {
  mixed := by kernel_rfl
  f166 := Tryz.func62.trans (congrArg some (by kernel_rfl))
  f240 := Tryz.func88.trans (congrArg some (by kernel_rfl))
  f276 := Tryz.func106.trans (congrArg some (by kernel_rfl))
  t0 := by first | exact Tryz.underlying0 | kernel_rfl
  a0 := by first | exact Tryz.isAgg0 | (intro w; kernel_rfl)
  z0 := by first | exact Tryz.sizeOf0 | (intro w; kernel_rfl)
  v0 := by first | exact Tryz.zeroValue0 | (intro w; kernel_rfl)
  t3 := by first | exact Tryz.underlying3 | kernel_rfl
  a3 := by first | exact Tryz.isAgg3 | (intro w; kernel_rfl)
  z3 := by first | exact Tryz.sizeOf3 | (intro w; kernel_rfl)
  v3 := by first | exact Tryz.zeroValue3 | (intro w; kernel_rfl)
  t4 := by first | exact Tryz.underlying4 | kernel_rfl
  a4 := by first | exact Tryz.isAgg4 | (intro w; kernel_rfl)
  z4 := by first | exact Tryz.sizeOf4 | (intro w; kernel_rfl)
  v4 := by first | exact Tryz.zeroValue4 | (intro w; kernel_rfl)
  t9 := by first | exact Tryz.underlying9 | kernel_rfl
  a9 := by first | exact Tryz.isAgg9 | (intro w; kernel_rfl)
  z9 := by first | exact Tryz.sizeOf9 | (intro w; kernel_rfl)
  v9 := by first | exact Tryz.zeroValue9 | (intro w; kernel_rfl)
  t20 := by first | exact Tryz.underlying20 | kernel_rfl
  a20 := by first | exact Tryz.isAgg20 | (intro w; kernel_rfl)
  z20 := by first | exact Tryz.sizeOf20 | (intro w; kernel_rfl)
  v20 := by first | exact Tryz.zeroValue20 | (intro w; kernel_rfl)
  t37 := by first | exact Tryz.underlying36 | kernel_rfl
  a37 := by first | exact Tryz.isAgg36 | (intro w; kernel_rfl)
  z37 := by first | exact Tryz.sizeOf36 | (intro w; kernel_rfl)
  v37 := by first | exact Tryz.zeroValue36 | (intro w; kernel_rfl)
  t70 := by first | exact Tryz.underlying57 | kernel_rfl
  a70 := by first | exact Tryz.isAgg57 | (intro w; kernel_rfl)
  z70 := by first | exact Tryz.sizeOf57 | (intro w; kernel_rfl)
  v70 := by first | exact Tryz.zeroValue57 | (intro w; kernel_rfl)
  t72 := by first | exact Tryz.underlying59 | kernel_rfl
  a72 := by first | exact Tryz.isAgg59 | (intro w; kernel_rfl)
  z72 := by first | exact Tryz.sizeOf59 | (intro w; kernel_rfl)
  v72 := by first | exact Tryz.zeroValue59 | (intro w; kernel_rfl)
  t75 := by first | exact Tryz.underlying89 | kernel_rfl
  a75 := by first | exact Tryz.isAgg89 | (intro w; kernel_rfl)
  z75 := by first | exact Tryz.sizeOf89 | (intro w; kernel_rfl)
  v75 := by first | exact Tryz.zeroValue89 | (intro w; kernel_rfl)
  t164 := by first | exact Tryz.underlying147 | kernel_rfl
  a164 := by first | exact Tryz.isAgg147 | (intro w; kernel_rfl)
  z164 := by first | exact Tryz.sizeOf147 | (intro w; kernel_rfl)
  v164 := by first | exact Tryz.zeroValue147 | (intro w; kernel_rfl)
}
theorem Tryz.lays169 : Go.Proofs.Lays.n169 Tryz.prog Tryz.bld_ren := {
  mixed := by kernel_rfl
  f169 := Tryz.func33.trans (congrArg some (by kernel_rfl))
  t0 := by first | exact Tryz.underlying0 | kernel_rfl
  a0 := by first | exact Tryz.isAgg0 | (intro w; kernel_rfl)
  z0 := by first | exact Tryz.sizeOf0 | (intro w; kernel_rfl)
  v0 := by first | exact Tryz.zeroValue0 | (intro w; kernel_rfl)
  t3 := by first | exact Tryz.underlying3 | kernel_rfl
  a3 := by first | exact Tryz.isAgg3 | (intro w; kernel_rfl)
  z3 := by first | exact Tryz.sizeOf3 | (intro w; kernel_rfl)
  v3 := by first | exact Tryz.zeroValue3 | (intro w; kernel_rfl)
  t9 := by first | exact Tryz.underlying9 | kernel_rfl
  a9 := by first | exact Tryz.isAgg9 | (intro w; kernel_rfl)
  z9 := by first | exact Tryz.sizeOf9 | (intro w; kernel_rfl)
  v9 := by first | exact Tryz.zeroValue9 | (intro w; kernel_rfl)
  t37 := by first | exact Tryz.underlying36 | kernel_rfl
  a37 := by first | exact Tryz.isAgg36 | (intro w; kernel_rfl)
  z37 := by first | exact Tryz.sizeOf36 | (intro w; kernel_rfl)
  v37 := by first | exact Tryz.zeroValue36 | (intro w; kernel_rfl)
  t70 := by first | exact Tryz.underlying57 | kernel_rfl
  a70 := by first | exact Tryz.isAgg57 | (intro w; kernel_rfl)
  z70 := by first | exact Tryz.sizeOf57 | (intro w; kernel_rfl)
  v70 := by first | exact Tryz.zeroValue57 | (intro w; kernel_rfl)
  t72 := by first | exact Tryz.underlying59 | kernel_rfl
  a72 := by first | exact Tryz.isAgg59 | (intro w; kernel_rfl)
  z72 := by first | exact Tryz.sizeOf59 | (intro w; kernel_rfl)
  v72 := by first | exact Tryz.zeroValue59 | (intro w; kernel_rfl)
  t127 := by first | exact Tryz.underlying95 | kernel_rfl
  a127 := by first | exact Tryz.isAgg95 | (intro w; kernel_rfl)
  z127 := by first | exact Tryz.sizeOf95 | (intro w; kernel_rfl)
  v127 := by first | exact Tryz.zeroValue95 | (intro w; kernel_rfl)
}
theorem Tryz.bldExtra : Builder.Extra Tryz.prog Tryz.bld_ren := {
  sizeBuilder := by kernel_rfl
  liesBuilder := by kernel_rfl
  t5 := by first | exact Tryz.underlying5 | kernel_rfl
  a5 := by first | exact Tryz.isAgg5 | (intro w; kernel_rfl)
  z5 := by first | exact Tryz.sizeOf5 | (intro w; kernel_rfl)
  v5 := by first | exact Tryz.zeroValue5 | (intro w; kernel_rfl)
  infoByte := by kernel_rfl
  cellsByte := by kernel_rfl
  sizeByte := by kernel_rfl
  neB5 := by decide }
end Go.Proofs
