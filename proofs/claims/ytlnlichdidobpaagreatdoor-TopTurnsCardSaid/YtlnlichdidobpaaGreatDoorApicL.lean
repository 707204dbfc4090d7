/-
 Each function keeps its contract.
-/
import Derived.Test.YtlnlichdidobpaaGreatDoorApicPJ
import Derived.Test.YtlnlichdidobpaaGreatDoorApicHJ
namespace Go.Proofs.YtlnlichdidobpaaGreatDoor.Apic
open Go.Sx
set_option maxRecDepth 100000
attribute [local irreducible] vc

theorem cI : ar Tryz.prog pA := trivial
theorem ak : gg Tryz.prog = true := by kernel_rfl
theorem aq : Tryz.prog.follows .mixedOrders = true := by kernel_rfl
theorem cJ : ar Tryz.prog pn := ⟨T9, cI⟩
theorem SD (x : HL (ou : ah).as) (hp : (ou : ah).pre x) (hl : aD (ou : ah).as x) : vc (ye x) 1 135 Tryz.f135 (ou) x := by
 rw [Fu]
 exact Sg x hp hl
theorem R9 : aX Tryz.prog 135 (ou) :=
 av (c := ou) (fn := Tryz.f135) (X := ye) (n := 1) (fun _ => aP ba aq ak cJ) Tryz.func135 (by kernel_rfl) (by kernel_rfl) (of_decide_eq_true (by kernel_rfl)) SD
theorem cR : ar Tryz.prog p5 := ⟨R9, cJ⟩
theorem eO : ar Tryz.prog tK := ⟨Vy, cR⟩
theorem SN (x : HL (n9 : ah).as) (hp : (n9 : ah).pre x) (hl : aD (n9 : ah).as x) : vc (y5 x) 1 134 Tryz.f134 (n9) x := by
 rw [Gc]
 exact RT x hp hl
theorem Rx : aX Tryz.prog 134 (n9) :=
 av (c := n9) (fn := Tryz.f134) (X := y5) (n := 1) (fun _ => aP ba aq ak eO) Tryz.func134 (by kernel_rfl) (by kernel_rfl) (of_decide_eq_true (by kernel_rfl)) SN
theorem kK : ar Tryz.prog DZ := ⟨Rx, eO⟩
theorem RL (x : HL (nG : ah).as) (hp : (nG : ah).pre x) (hl : aD (nG : ah).as x) : vc (yK x) 1 111 Tryz.f111 (nG) x := by
 rw [FQ]
 exact Sy x hp hl
theorem Sb : aX Tryz.prog 111 (nG) :=
 av (c := nG) (fn := Tryz.f111) (X := yK) (n := 1) (fun _ => aP ba aq ak kK) Tryz.func111 (by kernel_rfl) (by kernel_rfl) (of_decide_eq_true (by kernel_rfl)) RL
theorem nv : ar Tryz.prog Lp := ⟨Sb, kK⟩
theorem F7 (x : HL (eL : ah).as) (hp : (eL : ah).pre x) (hl : aD (eL : ah).as x) : vc (qc x) 1 112 Tryz.f112 (eL) x := by
 rw [yM]
 exact EF x hp hl
theorem Ex : aX Tryz.prog 112 (eL) :=
 av (c := eL) (fn := Tryz.f112) (X := qc) (n := 1) (fun _ => aP ba aq ak nv) Tryz.func112 (by kernel_rfl) (by kernel_rfl) (of_decide_eq_true (by kernel_rfl)) F7
theorem nX : ar Tryz.prog GN := ⟨Ex, nv⟩
theorem Ux (x : HL (tw : ah).as) (hp : (tw : ah).pre x) (hl : aD (tw : ah).as x) : vc (C5 x) 1 113 Tryz.f113 (tw) x := by
 rw [G7]
 exact Td x hp hl
theorem Tr : aX Tryz.prog 113 (tw) :=
 av (c := tw) (fn := Tryz.f113) (X := C5) (n := 1) (fun _ => aP ba aq ak nX) Tryz.func113 (by kernel_rfl) (by kernel_rfl) (of_decide_eq_true (by kernel_rfl)) Ux
theorem pU : ar Tryz.prog Lt := ⟨Tr, nX⟩
theorem RZ (x : HL (mZ : ah).as) (hp : (mZ : ah).pre x) (hl : aD (mZ : ah).as x) : vc (zx x) 1 133 Tryz.f133 (mZ) x := by
 rw [E0]
 exact Sv x hp hl
theorem RE : aX Tryz.prog 133 (mZ) :=
 av (c := mZ) (fn := Tryz.f133) (X := zx) (n := 1) (fun _ => aP ba aq ak pU) Tryz.func133 (by kernel_rfl) (by kernel_rfl) (of_decide_eq_true (by kernel_rfl)) RZ
theorem vp : ar Tryz.prog Rs := ⟨RE, pU⟩
theorem LN (x : HL (jB : ah).as) (hp : (jB : ah).pre x) (hl : aD (jB : ah).as x) : vc (uA x) 1 115 Tryz.f115 (jB) x := by
 rw [C0]
 exact M6 x hp hl
theorem MU : aX Tryz.prog 115 (jB) :=
 av (c := jB) (fn := Tryz.f115) (X := uA) (n := 1) (fun _ => aP ba aq ak vp) Tryz.func115 (by kernel_rfl) (by kernel_rfl) (of_decide_eq_true (by kernel_rfl)) LN
theorem wc : ar Tryz.prog RQ := ⟨MU, vp⟩
theorem iU (x : HL (fD : ah).as) (hp : (fD : ah).pre x) (hl : aD (fD : ah).as x) : vc (bQ x) 1 110 Tryz.f110 (fD) x := by
 rw [dK]
 exact iW x hp hl
theorem iX : aX Tryz.prog 110 (fD) :=
 av (c := fD) (fn := Tryz.f110) (X := bQ) (n := 1) (fun _ => aP ba aq ak wc) Tryz.func110 (by kernel_rfl) (by kernel_rfl) (of_decide_eq_true (by kernel_rfl)) iU
theorem tU : ar Tryz.prog FV := ⟨iX, wc⟩
theorem N6 (x : HL (uE : ah).as) (hp : (uE : ah).pre x) (hl : aD (uE : ah).as x) : vc (wP x) 1 116 Tryz.f116 (uE) x := by
 rw [CW]
 exact LZ x hp hl
theorem NG : aX Tryz.prog 116 (uE) :=
 av (c := uE) (fn := Tryz.f116) (X := wP) (n := 1) (fun _ => aP ba aq ak tU) Tryz.func116 (by kernel_rfl) (by kernel_rfl) (of_decide_eq_true (by kernel_rfl)) N6
theorem Ev : ar Tryz.prog RW := ⟨NG, tU⟩
theorem Na (x : HL (j4 : ah).as) (hp : (j4 : ah).pre x) (hl : aD (j4 : ah).as x) : vc (uU x) 1 84 Tryz.f84 (j4) x := by
 rw [DD]
 exact NJ x hp hl
theorem MG : aX Tryz.prog 84 (j4) :=
 av (c := j4) (fn := Tryz.f84) (X := uU) (n := 1) (fun _ => aP ba aq ak Ev) Tryz.func84 (by kernel_rfl) (by kernel_rfl) (of_decide_eq_true (by kernel_rfl)) Na
theorem D8 : ar Tryz.prog SH := ⟨MG, Ev⟩
theorem Nh (x : HL (bg : ah).as) (hp : (bg : ah).pre x) (hl : aD (bg : ah).as x) : vc (uH x) 2 82 Tryz.f82 (bg) x := by
 rw [BX]
 exact NL x hp hl
theorem Mn : aX Tryz.prog 82 (bg) :=
 av (c := bg) (fn := Tryz.f82) (X := uH) (n := 2) (fun _ => aP ba aq ak D8) Tryz.func82 (by kernel_rfl) (by kernel_rfl) (of_decide_eq_true (by kernel_rfl)) Nh
theorem N0 : ar Tryz.prog TU := ⟨Mn, D8⟩
theorem cr : ar Tryz.prog dY := N0
end Go.Proofs.YtlnlichdidobpaaGreatDoor.Apic
