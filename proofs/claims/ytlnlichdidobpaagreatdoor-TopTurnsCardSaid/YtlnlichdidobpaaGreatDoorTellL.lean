/-
 Each function keeps its contract.
-/
import Derived.Test.YtlnlichdidobpaaGreatDoorTellPJ
import Derived.Test.YtlnlichdidobpaaGreatDoorTellHJ
namespace Go.Proofs.YtlnlichdidobpaaGreatDoor.Tell
open Go.Sx
set_option maxRecDepth 100000
attribute [local irreducible] vc

theorem cI : ar Tryz.prog pA := eh (Go.Proofs.YtlnlichdidobpaaGreatDoor.Kern.cr) Go.Proofs.YtlnlichdidobpaaGreatDoor.Bench.cr
theorem ak : gg Tryz.prog = true := Go.Proofs.YtlnlichdidobpaaGreatDoor.Kern.ak
theorem aq : Tryz.prog.follows .mixedOrders = true := Go.Proofs.YtlnlichdidobpaaGreatDoor.Kern.aq
theorem cJ : ar Tryz.prog pn := ⟨N2, cI⟩
theorem cR : ar Tryz.prog p5 := ⟨S3, cJ⟩
theorem SB (x : HL (nf : ah).as) (hp : (nf : ah).pre x) (hl : aD (nf : ah).as x) : vc (yA x) 1 7 Tryz.f7 (nf) x := by
 rw [ED]
 exact Si x hp hl
theorem SJ : aX Tryz.prog 7 (nf) :=
 av (c := nf) (fn := Tryz.f7) (X := yA) (n := 1) (fun _ => aP ba aq ak cR) Tryz.func7 (by kernel_rfl) (by kernel_rfl) (of_decide_eq_true (by kernel_rfl)) SB
theorem eO : ar Tryz.prog tK := ⟨SJ, cR⟩
theorem cr : ar Tryz.prog dY := eO
end Go.Proofs.YtlnlichdidobpaaGreatDoor.Tell
