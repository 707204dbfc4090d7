/-
  Each function keeps its contract.
-/
import Derived.Test.YtlnlichdidobpaaGreatDoorTurnsPJ
import Derived.Test.YtlnlichdidobpaaGreatDoorTurnsX2
namespace Go.Proofs.YtlnlichdidobpaaGreatDoor.Turns
open Go.Sx
set_option maxRecDepth 100000
attribute [local irreducible] vc

theorem cI : ar Tryz.prog pA := Go.Proofs.YtlnlichdidobpaaGreatDoor.Tell.cr
theorem ak : gg Tryz.prog = true := Go.Proofs.YtlnlichdidobpaaGreatDoor.Tell.ak
theorem aq : Tryz.prog.follows .mixedOrders = true := Go.Proofs.YtlnlichdidobpaaGreatDoor.Tell.aq
theorem L4 (x : HL (iK : ah).as) (hp : (iK : ah).pre x) (hl : aD (iK : ah).as x) : vc (vj x) 1 4 Tryz.f4 (iK) x := by
  rw [BZ]
  exact MN x hp hl
theorem El : aX Tryz.prog 4 (iK) :=
  av (c := iK) (fn := Tryz.f4) (X := vj) (n := 1) (fun _ => aP ba aq ak cI) Tryz.func4 (by kernel_rfl) (by kernel_rfl) (of_decide_eq_true (by kernel_rfl)) L4
theorem cJ : ar Tryz.prog pn := ⟨El, cI⟩
theorem Eu : aX Tryz.prog 3 (yk) := Hm El
theorem cR : ar Tryz.prog p5 := ⟨Eu, cJ⟩
theorem cr : ar Tryz.prog dY := cR
end Go.Proofs.YtlnlichdidobpaaGreatDoor.Turns
