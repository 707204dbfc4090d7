/-
  The shelf's contracts of slices.Insert, laid for this program (plain text, printed by a tool).
-/
import Derived.Test.YtpmfgdedkmddlaaProg
import Derived.Shelf.Spec.SlicesInsertGrow
namespace Go.Proofs.Ytpmfgdedkmddlaa.Runq
set_option maxRecDepth 100000
set_option maxHeartbeats 4000000
set_option linter.unusedSimpArgs false
set_option linter.unusedVariables false

open Go Go.Proofs Go.Shelf
def layIns_ren : Go.Shelf.Ren := ⟨fun | 21 => 64 | 27 => 70 | 28 => 71 | 35 => 74 | 39 => 76 | n => n, fun | 22 => 24 | 3 => 3 | 4 => 4 | 0 => 0 | n => n, fun | n => n⟩
theorem layIns : Go.Proofs.Lays2.n21 Try.prog layIns_ren := {
  mixed := by kernel_rfl
  f21 := Try.func64.trans (congrArg some (by kernel_rfl))
  f27 := Try.func70.trans (congrArg some (by kernel_rfl))
  f28 := Try.func71.trans (congrArg some (by kernel_rfl))
  f35 := Try.func74.trans (congrArg some (by kernel_rfl))
  f39 := Try.func76.trans (congrArg some (by kernel_rfl))
  t0 := Try.underlying0
  a0 := Try.isAgg0
  z0 := Try.sizeOf0
  v0 := Try.zeroValue0
  t3 := Try.underlying3
  a3 := Try.isAgg3
  z3 := Try.sizeOf3
  v3 := Try.zeroValue3
  t4 := Try.underlying4
  a4 := Try.isAgg4
  z4 := Try.sizeOf4
  v4 := Try.zeroValue4
  t22 := Try.underlying24
  a22 := Try.isAgg24
  z22 := Try.sizeOf24
  v22 := Try.zeroValue24
  i3 := by kernel_rfl }

end Go.Proofs.Ytpmfgdedkmddlaa.Runq
