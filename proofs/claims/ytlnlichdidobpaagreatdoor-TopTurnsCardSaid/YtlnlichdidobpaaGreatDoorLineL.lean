/-
 Each function keeps its contract.
-/
import Derived.Test.YtlnlichdidobpaaGreatDoorLinePJ
namespace Go.Proofs.YtlnlichdidobpaaGreatDoor.Line
open Go.Sx
set_option maxRecDepth 100000
attribute [local irreducible] vc

theorem cI : ar Tryz.prog pA := trivial
theorem ak : gg Tryz.prog = true := by kernel_rfl
theorem aq : Tryz.prog.follows .mixedOrders = true := by kernel_rfl
theorem qh (x : HL (bc : ah).as) (hp : (bc : ah).pre x) (hl : aD (bc : ah).as x) : vc (eM x) 1 137 Tryz.f137 (bc) x := by
 rw [ke]
 exact rb x hp hl
theorem qp : aX Tryz.prog 137 (bc) :=
 av (c := bc) (fn := Tryz.f137) (X := eM) (n := 1) (fun _ => aP ba aq ak cI) Tryz.func137 (by kernel_rfl) (by kernel_rfl) (of_decide_eq_true (by kernel_rfl)) qh
theorem cJ : ar Tryz.prog pn := ⟨qp, cI⟩
theorem Sp (x : HL (wz : ah).as) (hp : (wz : ah).pre x) (hl : aD (wz : ah).as x) : vc (yL x) 1 146 Tryz.f146 (wz) x := by
 rw [FW]
 exact Ru x hp hl
theorem Sm : aX Tryz.prog 146 (wz) :=
 av (c := wz) (fn := Tryz.f146) (X := yL) (n := 1) (fun _ => aP ba aq ak cJ) Tryz.func146 (by kernel_rfl) (by kernel_rfl) (of_decide_eq_true (by kernel_rfl)) Sp
theorem cR : ar Tryz.prog p5 := ⟨Sm, cJ⟩
theorem iU (x : HL (aJ : ah).as) (hp : (aJ : ah).pre x) (hl : aD (aJ : ah).as x) : vc (bQ x) 3 136 Tryz.f136 (aJ) x := by
 rw [dK]
 exact iW x hp hl
theorem iX : aX Tryz.prog 136 (aJ) :=
 av (c := aJ) (fn := Tryz.f136) (X := bQ) (n := 3) (fun _ => aP ba aq ak cR) Tryz.func136 (by kernel_rfl) (by kernel_rfl) (of_decide_eq_true (by kernel_rfl)) iU
theorem eO : ar Tryz.prog tK := ⟨iX, cR⟩
theorem vU (x : HL (bg : ah).as) (hp : (bg : ah).pre x) (hl : aD (bg : ah).as x) : vc (gj x) 2 114 Tryz.f114 (bg) x := by
 rw [lG]
 exact vn x hp hl
theorem vl : aX Tryz.prog 114 (bg) :=
 av (c := bg) (fn := Tryz.f114) (X := gj) (n := 2) (fun _ => aP ba aq ak eO) Tryz.func114 (by kernel_rfl) (by kernel_rfl) (of_decide_eq_true (by kernel_rfl)) vU
theorem kK : ar Tryz.prog DZ := ⟨vl, eO⟩
theorem cr : ar Tryz.prog dY := kK
end Go.Proofs.YtlnlichdidobpaaGreatDoor.Line
