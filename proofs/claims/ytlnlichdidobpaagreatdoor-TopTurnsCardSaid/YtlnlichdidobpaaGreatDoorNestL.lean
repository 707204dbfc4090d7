/-
 Each function keeps its contract.
-/
import Derived.Test.YtlnlichdidobpaaGreatDoorNestPJ
namespace Go.Proofs.YtlnlichdidobpaaGreatDoor.Nest
open Go.Sx
set_option maxRecDepth 100000
attribute [local irreducible] vc

theorem cI : ar Tryz.prog pA := trivial
theorem ak : gg Tryz.prog = true := by kernel_rfl
theorem aq : Tryz.prog.follows .mixedOrders = true := by kernel_rfl
theorem qh (x : HL (bc : ah).as) (hp : (bc : ah).pre x) (hl : aD (bc : ah).as x) : vc (eM x) 1 122 Tryz.f122 (bc) x := by
 rw [ke]
 exact rb x hp hl
theorem qp : aX Tryz.prog 122 (bc) :=
 av (c := bc) (fn := Tryz.f122) (X := eM) (n := 1) (fun _ => aP ba aq ak cI) Tryz.func122 (by kernel_rfl) (by kernel_rfl) (of_decide_eq_true (by kernel_rfl)) qh
theorem cJ : ar Tryz.prog pn := ⟨qp, cI⟩
theorem iU (x : HL (aJ : ah).as) (hp : (aJ : ah).pre x) (hl : aD (aJ : ah).as x) : vc (bQ x) 1 121 Tryz.f121 (aJ) x := by
 rw [dK]
 exact iW x hp hl
theorem iX : aX Tryz.prog 121 (aJ) :=
 av (c := aJ) (fn := Tryz.f121) (X := bQ) (n := 1) (fun _ => aP ba aq ak cJ) Tryz.func121 (by kernel_rfl) (by kernel_rfl) (of_decide_eq_true (by kernel_rfl)) iU
theorem cR : ar Tryz.prog p5 := ⟨iX, cJ⟩
theorem vU (x : HL (bg : ah).as) (hp : (bg : ah).pre x) (hl : aD (bg : ah).as x) : vc (gj x) 1 89 Tryz.f89 (bg) x := by
 rw [lG]
 exact vn x hp hl
theorem vl : aX Tryz.prog 89 (bg) :=
 av (c := bg) (fn := Tryz.f89) (X := gj) (n := 1) (fun _ => aP ba aq ak cR) Tryz.func89 (by kernel_rfl) (by kernel_rfl) (of_decide_eq_true (by kernel_rfl)) vU
theorem eO : ar Tryz.prog tK := ⟨vl, cR⟩
theorem cr : ar Tryz.prog dY := eO
end Go.Proofs.YtlnlichdidobpaaGreatDoor.Nest
